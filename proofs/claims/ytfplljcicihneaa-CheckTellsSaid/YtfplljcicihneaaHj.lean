/-
  MADE BY A PROGRAM: programs that the compiler makes of functions, and that it makes them.
-/
import Derived.Test.YtfplljcicihneaaGs
namespace Vm
open Go
open Go.Proofs
set_option maxRecDepth 100000
/-- cromlech/check.Right -/
def p30 : Fn := ⟨5, [0, 1, 2, 3, 4],
(.seq
(.reg ⟨[], [], [(1, .m [(.fld (.sz (.s 0) 10) 0), (.fld (.sz (.s 0) 10) 1), (.fld (.sz (.s 0) 10) 2), (.fld (.sz (.s 0) 10) 3), (.fld (.sz (.s 0) 10) 4), (.fld (.sz (.s 0) 10) 5), (.fld (.sz (.s 0) 10) 6), (.fld (.sz (.s 0) 10) 7), (.fld (.sz (.s 0) 10) 8), (.fld (.sz (.s 0) 10) 9)]), (2, .v (.c (.bool false)))]⟩)
(.seq
(.reg ⟨[.call 5 [] (.id 68) false false [(.mm 1 0 10)]], [], [(3, .v (.ext (.s 5) 0)), (4, .v (.ext (.s 5) 1))]⟩)
(.seq
(.reg ⟨[], [], [(2, .v (.s 4))]⟩)
.ret))),
[(2, .v)]⟩
theorem c30 : compFn Try.prog fresh sig [.fz] [] Try.f30 = some p30 := by kernel_rfl
/-- cromlech/check.Waiting -/
def p32 : Fn := ⟨6, [0, 1, 2, 3, 4, 11],
(.seq
(.reg ⟨[], [], [(1, .m [(.fld (.sz (.s 0) 10) 0), (.fld (.sz (.s 0) 10) 1), (.fld (.sz (.s 0) 10) 2), (.fld (.sz (.s 0) 10) 3), (.fld (.sz (.s 0) 10) 4), (.fld (.sz (.s 0) 10) 5), (.fld (.sz (.s 0) 10) 6), (.fld (.sz (.s 0) 10) 7), (.fld (.sz (.s 0) 10) 8), (.fld (.sz (.s 0) 10) 9)]), (2, .v (.c (.int .i64 (0))))]⟩)
(.seq
(.reg ⟨[.call 6 [] (.id 68) false false [(.mm 1 0 10)]], [], [(3, .v (.ext (.s 6) 0)), (4, .v (.ext (.s 6) 1))]⟩)
(.seq
(.seq
(.reg ⟨[], [], [(5, .v (.un .not (.s 4)))]⟩)
(.cond (.s 5)
 (.seq
 (.reg ⟨[], [], [(2, .v (.c (.int .i64 (0))))]⟩)
 .ret)
 .skip))
(.seq
(.reg ⟨[.call 7 [] (.id 76) false false [(.s 3)]], [], [(2, .v (.s 7))]⟩)
.ret)))),
[(2, .v)]⟩
theorem c32 : compFn Try.prog fresh sig [.fz] [] Try.f32 = some p32 := by kernel_rfl
/-- cromlech/check.Objects -/
def p34 : Fn := ⟨8, [0, 1, 2, 4, 5, 6, 7, 22],
(.seq
(.reg ⟨[], [], [(2, .m [(.fld (.sz (.s 0) 10) 0), (.fld (.sz (.s 0) 10) 1), (.fld (.sz (.s 0) 10) 2), (.fld (.sz (.s 0) 10) 3), (.fld (.sz (.s 0) 10) 4), (.fld (.sz (.s 0) 10) 5), (.fld (.sz (.s 0) 10) 6), (.fld (.sz (.s 0) 10) 7), (.fld (.sz (.s 0) 10) 8), (.fld (.sz (.s 0) 10) 9)]), (3, .v (.c (.sl []))), (4, .v (.c (.int .i64 (0))))]⟩)
(.seq
(.reg ⟨[.call 8 [] (.id 68) false false [(.mm 2 0 10)]], [], [(5, .v (.ext (.s 8) 0)), (6, .v (.ext (.s 8) 1))]⟩)
(.seq
(.seq
(.reg ⟨[.lt 9 [] (.un .not (.s 6)), .lt 10 [] (.ite (.s 9) (.c (.bool true)) (.bin .lss (.s 1) (.c (.int .i64 (1)))))], [([(9, false)], (.bin .lss (.s 1) (.c (.int .i64 (1))))), ([(10, false)], (.bin .gtr (.s 1) (.c (.int .i64 (4)))))], [(7, .v (.ite (.s 10) (.c (.bool true)) (.bin .gtr (.s 1) (.c (.int .i64 (4))))))]⟩)
(.cond (.s 7)
 (.seq
 (.reg ⟨[], [], [(4, .v (.c (.int .i64 (1))))]⟩)
 .ret)
 .skip))
(.seq
(.reg ⟨[], [], [(3, .v (.fld (.ai (.flds (.star (.s 5)) 17 4) (.bin .sub (.s 1) (.c (.int .i64 (1)))) 4 1 true) 0)), (4, .v (.c (.int .i64 (0))))]⟩)
.ret)))),
[(3, .v), (4, .v)]⟩
theorem c34 : compFn Try.prog fresh sig [.fz, .fz] [] Try.f34 = some p34 := by kernel_rfl
/-- cromlech/check.look -/
def p68 : Fn := ⟨12, [0, 1, 2, 3, 13, 4, 16, 15, 17, 6, 14, 24],
(.seq
(.reg ⟨[], [], [(1, .m [(.fld (.sz (.s 0) 10) 0), (.fld (.sz (.s 0) 10) 1), (.fld (.sz (.s 0) 10) 2), (.fld (.sz (.s 0) 10) 3), (.fld (.sz (.s 0) 10) 4), (.fld (.sz (.s 0) 10) 5), (.fld (.sz (.s 0) 10) 6), (.fld (.sz (.s 0) 10) 7), (.fld (.sz (.s 0) 10) 8), (.fld (.sz (.s 0) 10) 9)]), (2, .v (.c (.nul 0))), (3, .v (.c (.bool false)))]⟩)
(.seq
(.reg ⟨[.call 12 [] (.id 54) false false [(.mm 1 0 10)]], [([], (.ag [(.fld (.mm 1 0 10) 0), (.fld (.mm 1 0 10) 1), (.fld (.mm 1 0 10) 2), (.fld (.mm 1 0 10) 3), (.fld (.mm 1 0 10) 4), (.fld (.mm 1 0 10) 5), (.fld (.mm 1 0 10) 6), (.fld (.mm 1 0 10) 7), (.fld (.mm 1 0 10) 8), (.fld (.mm 1 0 10) 9), (.fld (.sz (.s 12) 7) 0), (.fld (.sz (.s 12) 7) 1), (.fld (.sz (.s 12) 7) 2), (.fld (.sz (.s 12) 7) 3), (.fld (.sz (.s 12) 7) 4), (.fld (.sz (.s 12) 7) 5), (.fld (.sz (.s 12) 7) 6), (.c (.sl [])), (.c (.sl [])), (.c (.sl [])), (.c (.sl [])), (.c (.mp 0 [] [])), (.c (.mp 0 [] []))]))], [(5, .m [(.fld (.mm 1 0 10) 0), (.fld (.mm 1 0 10) 1), (.fld (.mm 1 0 10) 2), (.fld (.mm 1 0 10) 3), (.fld (.mm 1 0 10) 4), (.fld (.mm 1 0 10) 5), (.fld (.mm 1 0 10) 6), (.fld (.mm 1 0 10) 7), (.fld (.mm 1 0 10) 8), (.fld (.mm 1 0 10) 9), (.fld (.sz (.s 12) 7) 0), (.fld (.sz (.s 12) 7) 1), (.fld (.sz (.s 12) 7) 2), (.fld (.sz (.s 12) 7) 3), (.fld (.sz (.s 12) 7) 4), (.fld (.sz (.s 12) 7) 5), (.fld (.sz (.s 12) 7) 6), (.c (.sl [])), (.c (.sl [])), (.c (.sl [])), (.c (.sl [])), (.c (.mp 0 [] [])), (.c (.mp 0 [] []))])]⟩)
(.seq
(.seq
(.reg ⟨[.call 10 [] (.id 94) false false []], [], [(6, .v (.c (.int .i64 (0)))), (7, .v (.len (.s 10)))]⟩)
(.block 0
 (.loop [0, 1, 2, 3, 5, 6, 7, 10]
  (.seq
  (.reg ⟨[], [], [(8, .v (.bin .lss (.s 6) (.s 7)))]⟩)
  (.seq
  (.cond (.s 8)
   .skip
   (.exit 0))
  (.seq
  (.block 1
   (.seq
   (.reg ⟨[], [], [(9, .m [(.fld (.flds (.idx (.s 10) (.s 6) 1) 0 1) 0)])]⟩)
   (.seq
   (.reg ⟨[.callm 13 [] (.e (.m 9 0)) [(.mem [.fz, .fz, .fz, .fz, .fz, .fz, .fz, .fz, .fz, .fz, .fz, .fz, .fz, .fz, .fz, .fz, .fz, .fz, .fz, .fz, .fz, (.own 119), (.own 120)])] [(.ag [(.m 5 0), (.m 5 1), (.m 5 2), (.m 5 3), (.m 5 4), (.m 5 5), (.m 5 6), (.m 5 7), (.m 5 8), (.m 5 9), (.m 5 10), (.m 5 11), (.m 5 12), (.m 5 13), (.m 5 14), (.m 5 15), (.m 5 16), (.m 5 17), (.m 5 18), (.m 5 19), (.m 5 20), (.m 5 21), (.m 5 22)])]], [], [(5, .m [(.fld (.ext (.s 13) 1) 0), (.fld (.ext (.s 13) 1) 1), (.fld (.ext (.s 13) 1) 2), (.fld (.ext (.s 13) 1) 3), (.fld (.ext (.s 13) 1) 4), (.fld (.ext (.s 13) 1) 5), (.fld (.ext (.s 13) 1) 6), (.fld (.ext (.s 13) 1) 7), (.fld (.ext (.s 13) 1) 8), (.fld (.ext (.s 13) 1) 9), (.fld (.ext (.s 13) 1) 10), (.fld (.ext (.s 13) 1) 11), (.fld (.ext (.s 13) 1) 12), (.fld (.ext (.s 13) 1) 13), (.fld (.ext (.s 13) 1) 14), (.fld (.ext (.s 13) 1) 15), (.fld (.ext (.s 13) 1) 16), (.fld (.ext (.s 13) 1) 17), (.fld (.ext (.s 13) 1) 18), (.fld (.ext (.s 13) 1) 19), (.fld (.ext (.s 13) 1) 20), (.fld (.ext (.s 13) 1) 21), (.fld (.ext (.s 13) 1) 22)]), (11, .v (.un .not (.ext (.s 13) 0)))]⟩)
   (.cond (.s 11)
    (.seq
    (.reg ⟨[], [], [(2, .v (.c (.nul 0))), (3, .v (.c (.bool false)))]⟩)
    .ret)
    .skip))))
  (.reg ⟨[], [], [(6, .v (.bin .add (.s 6) (.c (.int .i64 (1)))))]⟩)))))))
(.seq
(.reg ⟨[], [], [(2, .v (.pt none [(.m 5 0), (.m 5 1), (.m 5 2), (.m 5 3), (.m 5 4), (.m 5 5), (.m 5 6), (.m 5 7), (.m 5 8), (.m 5 9), (.m 5 10), (.m 5 11), (.m 5 12), (.m 5 13), (.m 5 14), (.m 5 15), (.m 5 16), (.m 5 17), (.m 5 18), (.m 5 19), (.m 5 20), (.m 5 21), (.m 5 22)])), (3, .v (.c (.bool true))), (5, .no)]⟩)
.ret)))),
[(2, .v), (3, .v)]⟩
theorem c68 : compFn Try.prog fresh sig [.fz] [] Try.f68 = some p68 := by kernel_rfl
/-- (*cromlech/check.state).waiting -/
def p76 : Fn := ⟨11, [0, 2, 3, 4, 8, 19, 18, 20, 6, 17, 25],
(.seq
(.reg ⟨[], [], [(1, .v (.c (.int .i64 (0))))]⟩)
(.seq
(.reg ⟨[], [], [(2, .v (.c (.int .i64 (0))))]⟩)
(.seq
(.seq
(.reg ⟨[], [], [(3, .v (.c (.int .i64 (3))))]⟩)
(.block 0
 (.loop [0, 1, 2, 3]
  (.seq
  (.seq
  (.reg ⟨[], [], [(4, .v (.bin .leq (.s 3) (.c (.int .i64 (4)))))]⟩)
  (.cond (.s 4)
   .skip
   (.exit 0)))
  (.seq
  (.block 1
   (.seq
   (.reg ⟨[], [], [(5, .v (.c (.int .i64 (0)))), (6, .v (.len (.fld (.ai (.flds (.star (.s 0)) 17 4) (.bin .sub (.s 3) (.c (.int .i64 (1)))) 4 1 true) 0))), (9, .v (.fld (.ai (.flds (.star (.s 0)) 17 4) (.bin .sub (.s 3) (.c (.int .i64 (1)))) 4 1 true) 0))]⟩)
   (.block 2
    (.loop [0, 1, 2, 3, 4, 5, 6, 9]
     (.seq
     (.reg ⟨[], [], [(7, .v (.bin .lss (.s 5) (.s 6)))]⟩)
     (.seq
     (.cond (.s 7)
      .skip
      (.exit 2))
     (.seq
     (.block 3
      (.seq
      (.reg ⟨[], [], [(8, .m [(.fld (.flds (.idx (.s 9) (.s 5) 5) 0 5) 0), (.fld (.flds (.idx (.s 9) (.s 5) 5) 0 5) 1), (.fld (.flds (.idx (.s 9) (.s 5) 5) 0 5) 2), (.fld (.flds (.idx (.s 9) (.s 5) 5) 0 5) 3), (.fld (.flds (.idx (.s 9) (.s 5) 5) 0 5) 4)])]⟩)
      (.seq
      (.reg ⟨[], [], [(10, .v (.un .not (.m 8 3)))]⟩)
      (.cond (.s 10)
       (.reg ⟨[], [], [(2, .v (.bin .add (.s 2) (.bin .add (.c (.int .i64 (1))) (.m 8 1))))]⟩)
       .skip))))
     (.reg ⟨[], [], [(5, .v (.bin .add (.s 5) (.c (.int .i64 (1)))))]⟩))))))))
  (.reg ⟨[], [], [(3, .v (.bin .add (.s 3) (.c (.int .i64 (1)))))]⟩))))))
(.seq
(.reg ⟨[], [], [(1, .v (.s 2))]⟩)
.ret)))),
[(1, .v)]⟩
theorem c76 : compFn Try.prog fresh sig [.fz] [] Try.f76 = some p76 := by kernel_rfl
/-- cromlech/check.rules -/
def p94 : Fn := ⟨1, [0],
(.seq
(.reg ⟨[], [], [(0, .v (.c (.sl [])))]⟩)
(.seq
(.reg ⟨[], [], [(0, .v (.lit [(.ag [(.c (.fn 103))]), (.ag [(.c (.fn 104))]), (.ag [(.c (.fn 105))]), (.ag [(.c (.fn 106))]), (.ag [(.c (.fn 107))]), (.ag [(.c (.fn 108))]), (.ag [(.c (.fn 109))]), (.ag [(.c (.fn 110))])]))]⟩)
.ret)),
[(0, .v)]⟩
theorem c94 : compFn Try.prog fresh sig [] [] Try.f94 = some p94 := by kernel_rfl
/-- cromlech/check.bounded -/
def p103 : Fn := ⟨2, [0, 2],
(.seq
(.reg ⟨[], [], [(1, .v (.c (.bool false)))]⟩)
(.seq
(.reg ⟨[.call 2 [] (.id 55) false false [(.flds (.star (.s 0)) 10 7)], .lt 3 [] (.s 2), .lt 4 [] (.ite (.s 3) (.bin .leq (.len (.fld (.star (.s 0)) 9)) (.c (.int .i64 (16)))) (.c (.bool false))), .lt 5 [] (.ite (.s 4) (.bin .geq (.fld (.star (.s 0)) 4) (.c (.int .i64 (0)))) (.c (.bool false)))], [([(3, true)], (.bin .leq (.len (.fld (.star (.s 0)) 9)) (.c (.int .i64 (16))))), ([(4, true)], (.bin .geq (.fld (.star (.s 0)) 4) (.c (.int .i64 (0))))), ([(5, true)], (.bin .leq (.fld (.star (.s 0)) 4) (.len (.fld (.star (.s 0)) 5))))], [(1, .v (.ite (.s 5) (.bin .leq (.fld (.star (.s 0)) 4) (.len (.fld (.star (.s 0)) 5))) (.c (.bool false))))]⟩)
.ret)),
[(1, .v)]⟩
theorem c103 : compFn Try.prog fresh sig [.fz] [] Try.f103 = some p103 := by kernel_rfl
/-- cromlech/check.resting -/
def p104 : Fn := ⟨3, [0, 2, 7],
(.seq
(.reg ⟨[], [], [(1, .v (.c (.bool false)))]⟩)
(.seq
(.seq
(.reg ⟨[], [], [(2, .v (.fld (.star (.s 0)) 3))]⟩)
(.cond (.s 2)
 (.seq
 (.reg ⟨[], [], [(1, .v (.bin .lss (.fld (.star (.s 0)) 4) (.len (.fld (.star (.s 0)) 5))))]⟩)
 .ret)
 .skip))
(.seq
(.reg ⟨[.lt 3 [] (.bin .eql (.len (.fld (.star (.s 0)) 7)) (.c (.int .i64 (0)))), .lt 4 [] (.ite (.s 3) (.bin .eql (.len (.fld (.star (.s 0)) 8)) (.c (.int .i64 (0)))) (.c (.bool false)))], [([(3, true)], (.bin .eql (.len (.fld (.star (.s 0)) 8)) (.c (.int .i64 (0))))), ([(4, true)], (.bin .eql (.fld (.star (.s 0)) 4) (.len (.fld (.star (.s 0)) 5))))], [(1, .v (.ite (.s 4) (.bin .eql (.fld (.star (.s 0)) 4) (.len (.fld (.star (.s 0)) 5))) (.c (.bool false))))]⟩)
.ret))),
[(1, .v)]⟩
theorem c104 : compFn Try.prog fresh sig [.fz] [] Try.f104 = some p104 := by kernel_rfl
/-- cromlech/check.walked -/
def p105 : Fn := ⟨11, [0, 2, 3, 8, 9, 4, 5, 6, 7, 18, 39],
(.seq
(.reg ⟨[], [], [(1, .v (.c (.bool false)))]⟩)
(.seq
(.reg ⟨[], [], [(2, .v (.c (.bool true)))]⟩)
(.seq
.skip
(.seq
(.seq
(.reg ⟨[], [], [(3, .v (.c (.int .i64 (0))))]⟩)
(.block 0
 (.loop [0, 1, 2, 3]
  (.seq
  (.reg ⟨[], [], [(4, .v (.bin .lss (.s 3) (.c (.int .i64 (4)))))]⟩)
  (.seq
  (.cond (.s 4)
   .skip
   (.exit 0))
  (.seq
  (.block 1
   (.seq
   (.reg ⟨[], [], [(5, .v (.s 3))]⟩)
   (.seq
   (.reg ⟨[], [], [(6, .v (.bin .add (.s 5) (.c (.int .i64 (1)))))]⟩)
   (.seq
   (.reg ⟨[], [], [(7, .v (.c (.sl [])))]⟩)
   (.seq
   (.reg ⟨[], [], [(8, .v (.c (.int .i64 (0))))]⟩)
   (.seq
   (.seq
   (.reg ⟨[.lt 11 [] (.bin .eql (.s 6) (.c (.int .i64 (1))))], [([(11, false)], (.bin .eql (.s 6) (.c (.int .i64 (2)))))], [(9, .v (.ite (.s 11) (.c (.bool true)) (.bin .eql (.s 6) (.c (.int .i64 (2))))))]⟩)
   (.cond (.s 9)
    (.reg ⟨[.call 12 [] (.id 113) false false [(.pt none [(.m 0 0), (.m 0 1), (.m 0 2), (.m 0 3), (.m 0 4), (.m 0 5), (.m 0 6), (.m 0 7), (.m 0 8), (.m 0 9), (.m 0 10), (.m 0 11), (.m 0 12), (.m 0 13), (.m 0 14), (.m 0 15), (.m 0 16), (.m 0 17), (.m 0 18), (.m 0 19), (.m 0 20), (.m 0 21), (.m 0 22)]), (.s 6)], .call 13 [] (.id 112) true false [(.s 12)]], [], [(7, .v (.ext (.s 13) 0)), (8, .v (.ext (.s 13) 1))]⟩)
    (.reg ⟨[.call 14 [] (.id 113) false false [(.pt none [(.m 0 0), (.m 0 1), (.m 0 2), (.m 0 3), (.m 0 4), (.m 0 5), (.m 0 6), (.m 0 7), (.m 0 8), (.m 0 9), (.m 0 10), (.m 0 11), (.m 0 12), (.m 0 13), (.m 0 14), (.m 0 15), (.m 0 16), (.m 0 17), (.m 0 18), (.m 0 19), (.m 0 20), (.m 0 21), (.m 0 22)]), (.s 6)], .call 15 [] (.id 113) false false [(.pt none [(.m 0 0), (.m 0 1), (.m 0 2), (.m 0 3), (.m 0 4), (.m 0 5), (.m 0 6), (.m 0 7), (.m 0 8), (.m 0 9), (.m 0 10), (.m 0 11), (.m 0 12), (.m 0 13), (.m 0 14), (.m 0 15), (.m 0 16), (.m 0 17), (.m 0 18), (.m 0 19), (.m 0 20), (.m 0 21), (.m 0 22)]), (.s 6)], .call 16 [] (.id 115) false false [(.pt none [(.m 0 0), (.m 0 1), (.m 0 2), (.m 0 3), (.m 0 4), (.m 0 5), (.m 0 6), (.m 0 7), (.m 0 8), (.m 0 9), (.m 0 10), (.m 0 11), (.m 0 12), (.m 0 13), (.m 0 14), (.m 0 15), (.m 0 16), (.m 0 17), (.m 0 18), (.m 0 19), (.m 0 20), (.m 0 21), (.m 0 22)]), (.s 15)], .call 17 [] (.id 114) true false [(.s 14), (.s 16)]], [], [(7, .v (.ext (.s 17) 0)), (8, .v (.ext (.s 17) 1))]⟩)))
   (.seq
   (.seq
   (.reg ⟨[], [], [(10, .v (.bin .neq (.s 8) (.c (.int .i64 (0)))))]⟩)
   (.cond (.s 10)
    (.seq
    (.reg ⟨[], [], [(2, .v (.c (.bool false)))]⟩)
    (.exit 0))
    .skip))
   (.reg ⟨[.callm 18 [] (.id 116) [(.mem [.fz, .fz, .fz, .fz, .fz, .fz, .fz, .fz, .fz, .fz, .fz, .fz, .fz, .fz, .fz, .fz, .fz, .fz, .fz, .fz, .fz, (.own 119), (.own 120)]), .fz, .fz] [(.ag [(.m 0 0), (.m 0 1), (.m 0 2), (.m 0 3), (.m 0 4), (.m 0 5), (.m 0 6), (.m 0 7), (.m 0 8), (.m 0 9), (.m 0 10), (.m 0 11), (.m 0 12), (.m 0 13), (.m 0 14), (.m 0 15), (.m 0 16), (.m 0 17), (.m 0 18), (.m 0 19), (.m 0 20), (.m 0 21), (.m 0 22)]), (.s 6), (.s 7)]], [], [(0, .m [(.fld (.ext (.s 18) 1) 0), (.fld (.ext (.s 18) 1) 1), (.fld (.ext (.s 18) 1) 2), (.fld (.ext (.s 18) 1) 3), (.fld (.ext (.s 18) 1) 4), (.fld (.ext (.s 18) 1) 5), (.fld (.ext (.s 18) 1) 6), (.fld (.ext (.s 18) 1) 7), (.fld (.ext (.s 18) 1) 8), (.fld (.ext (.s 18) 1) 9), (.fld (.ext (.s 18) 1) 10), (.fld (.ext (.s 18) 1) 11), (.fld (.ext (.s 18) 1) 12), (.fld (.ext (.s 18) 1) 13), (.fld (.ext (.s 18) 1) 14), (.fld (.ext (.s 18) 1) 15), (.fld (.ext (.s 18) 1) 16), (.fld (.ext (.s 18) 1) 17), (.fld (.ext (.s 18) 1) 18), (.fld (.ext (.s 18) 1) 19), (.fld (.ext (.s 18) 1) 20), (.fld (.ext (.s 18) 1) 21), (.fld (.ext (.s 18) 1) 22)])]⟩))))))))
  (.reg ⟨[], [], [(3, .v (.bin .add (.s 3) (.c (.int .i64 (1)))))]⟩)))))))
(.seq
(.reg ⟨[], [], [(1, .v (.s 2))]⟩)
.ret))))),
[(1, .v)]⟩
theorem c105 : compFn Try.prog fresh sig [(.mem [.fz, .fz, .fz, .fz, .fz, .fz, .fz, .fz, .fz, .fz, .fz, .fz, .fz, .fz, .fz, .fz, .fz, .fz, .fz, .fz, .fz, (.own 119), (.own 120)])] [(0, (.mem [.fz, .fz, .fz, .fz, .fz, .fz, .fz, .fz, .fz, .fz, .fz, .fz, .fz, .fz, .fz, .fz, .fz, .fz, .fz, .fz, .fz, (.own 119), (.own 120)]))] Try.f105 = some p105 := by kernel_rfl
/-- cromlech/check.copied -/
def p106 : Fn := ⟨13, [0, 2, 12, 3, 4, 15, 26, 25, 27, 6, 24, 32, 46],
(.seq
(.reg ⟨[], [], [(1, .v (.c (.bool false)))]⟩)
(.seq
(.seq
(.reg ⟨[], [], [(2, .v (.un .not (.fld (.star (.s 0)) 3)))]⟩)
(.cond (.s 2)
 (.seq
 (.reg ⟨[], [], [(1, .v (.c (.bool true)))]⟩)
 .ret)
 .skip))
(.seq
(.reg ⟨[], [], [(3, .v (.c (.mp 0 [] [])))]⟩)
(.seq
(.seq
(.reg ⟨[], [], [(4, .v (.c (.int .i64 (3))))]⟩)
(.block 0
 (.loop [0, 1, 2, 3, 4]
  (.seq
  (.seq
  (.reg ⟨[], [], [(5, .v (.bin .leq (.s 4) (.c (.int .i64 (4)))))]⟩)
  (.cond (.s 5)
   .skip
   (.exit 0)))
  (.seq
  (.block 1
   (.seq
   (.reg ⟨[], [], [(6, .v (.c (.int .i64 (0)))), (7, .v (.len (.fld (.ai (.flds (.star (.s 0)) 17 4) (.bin .sub (.s 4) (.c (.int .i64 (1)))) 4 1 true) 0))), (10, .v (.fld (.ai (.flds (.star (.s 0)) 17 4) (.bin .sub (.s 4) (.c (.int .i64 (1)))) 4 1 true) 0))]⟩)
   (.block 2
    (.loop [0, 1, 2, 3, 4, 5, 6, 7, 10]
     (.seq
     (.reg ⟨[], [], [(8, .v (.bin .lss (.s 6) (.s 7)))]⟩)
     (.seq
     (.cond (.s 8)
      .skip
      (.exit 2))
     (.seq
     (.block 3
      (.seq
      (.reg ⟨[], [], [(9, .m [(.fld (.flds (.idx (.s 10) (.s 6) 5) 0 5) 0), (.fld (.flds (.idx (.s 10) (.s 6) 5) 0 5) 1), (.fld (.flds (.idx (.s 10) (.s 6) 5) 0 5) 2), (.fld (.flds (.idx (.s 10) (.s 6) 5) 0 5) 3), (.fld (.flds (.idx (.s 10) (.s 6) 5) 0 5) 4)])]⟩)
      (.seq
      (.seq
      (.reg ⟨[], [], [(11, .v (.un .not (.m 9 3)))]⟩)
      (.cond (.s 11)
       (.exit 3)
       .skip))
      (.seq
      (.seq
      (.reg ⟨[.lt 13 [] (.bin .neq (.lk (.i .u64) (.fld (.star (.s 0)) 21) (.m 9 4) (.int .i64 (0)) false) (.c (.int .i64 (1))))], [([(13, false)], (.fl (.lk (.i .u64) (.s 3) (.m 9 4) (.bool false) false)))], [(12, .v (.ite (.s 13) (.c (.bool true)) (.fl (.lk (.i .u64) (.s 3) (.m 9 4) (.bool false) false))))]⟩)
      (.cond (.s 12)
       (.seq
       (.reg ⟨[], [], [(1, .v (.c (.bool false)))]⟩)
       .ret)
       .skip))
      (.reg ⟨[], [], [(3, .v (.mput (.i .u64) (.s 3) (.m 9 4) (.c (.bool true))))]⟩)))))
     (.reg ⟨[], [], [(6, .v (.bin .add (.s 6) (.c (.int .i64 (1)))))]⟩))))))))
  (.reg ⟨[], [], [(4, .v (.bin .add (.s 4) (.c (.int .i64 (1)))))]⟩))))))
(.seq
(.reg ⟨[], [], [(1, .v (.bin .eql (.mlen (.s 3)) (.len (.fld (.ai (.flds (.star (.s 0)) 17 4) (.c (.int .i64 (0))) 4 1 true) 0))))]⟩)
.ret))))),
[(1, .v)]⟩
theorem c106 : compFn Try.prog fresh sig [.fz] [] Try.f106 = some p106 := by kernel_rfl
/-- cromlech/check.settled -/
def p107 : Fn := ⟨9, [0, 1, 2, 11, 10, 12, 4, 9, 18],
(.seq
(.reg ⟨[], [], [(1, .m [(.one (.s 0))]), (2, .v (.c (.bool false)))]⟩)
(.seq
(.seq
(.reg ⟨[], [], [(3, .v (.c (.int .i64 (0)))), (4, .v (.len (.fld (.star (.m 1 0)) 9))), (7, .v (.fld (.star (.m 1 0)) 9))]⟩)
(.block 0
 (.loop [0, 1, 2, 3, 4, 7]
  (.seq
  (.reg ⟨[], [], [(5, .v (.bin .lss (.s 3) (.s 4)))]⟩)
  (.seq
  (.cond (.s 5)
   .skip
   (.exit 0))
  (.seq
  (.block 1
   (.seq
   (.reg ⟨[], [], [(6, .v (.fld (.idx (.s 7) (.s 3) 1) 0))]⟩)
   (.seq
   (.reg ⟨[.call 9 [] (.id 117) false false [(.m 1 0), (.s 6), (.c (.int .i64 (1))), (.c (.int .i64 (2)))]], [], [(8, .v (.un .not (.s 9)))]⟩)
   (.cond (.s 8)
    (.seq
    (.reg ⟨[], [], [(2, .v (.c (.bool false)))]⟩)
    .ret)
    .skip))))
  (.reg ⟨[], [], [(3, .v (.bin .add (.s 3) (.c (.int .i64 (1)))))]⟩)))))))
(.seq
(.reg ⟨[.call 10 [] (.id 118) false true [(.m 1 0), (.c (.int .i64 (2))), (.pt (some 119) [(.pt none [(.m 1 0)])])], .lt 11 [] (.s 10), .call 12 [(11, true)] (.id 118) false true [(.m 1 0), (.c (.int .i64 (1))), (.pt (some 120) [(.pt none [(.m 1 0)])])]], [], [(2, .v (.ite (.s 11) (.s 12) (.c (.bool false))))]⟩)
.ret))),
[(2, .v)]⟩
theorem c107 : compFn Try.prog fresh sig [.fz] [] Try.f107 = some p107 := by kernel_rfl
/-- cromlech/check.unscanned -/
def p108 : Fn := ⟨3, [0, 1, 2],
(.seq
(.reg ⟨[], [], [(1, .m [(.one (.s 0))]), (2, .v (.c (.bool false)))]⟩)
(.seq
(.reg ⟨[.call 3 [] (.id 118) false true [(.m 1 0), (.c (.int .i64 (1))), (.pt (some 121) [(.pt none [(.m 1 0)])])]], [], [(2, .v (.s 3))]⟩)
.ret)),
[(2, .v)]⟩
theorem c108 : compFn Try.prog fresh sig [.fz] [] Try.f108 = some p108 := by kernel_rfl
/-- cromlech/check.left -/
def p109 : Fn := ⟨4, [0, 1, 2, 3],
(.seq
(.reg ⟨[], [], [(1, .m [(.one (.s 0))]), (2, .v (.c (.bool false)))]⟩)
(.seq
(.reg ⟨[], [], [(3, .no)]⟩)
(.seq
(.reg ⟨[.call 4 [] (.id 118) false true [(.m 1 0), (.c (.int .i64 (3))), (.pt (some 122) [(.pt none [(.m 1 0)])])], .lt 5 [] (.s 4), .call 6 [(5, true)] (.id 118) false true [(.m 1 0), (.c (.int .i64 (4))), (.pt (some 122) [(.pt none [(.m 1 0)])])]], [], [(2, .v (.ite (.s 5) (.s 6) (.c (.bool false)))), (3, .no)]⟩)
.ret))),
[(2, .v)]⟩
theorem c109 : compFn Try.prog fresh sig [.fz] [] Try.f109 = some p109 := by kernel_rfl
/-- cromlech/check.roomy -/
def p110 : Fn := ⟨2, [0, 2],
(.seq
(.reg ⟨[], [], [(1, .v (.c (.bool false)))]⟩)
(.seq
(.reg ⟨[.call 2 [] (.id 76) false false [(.s 0)]], [], [(1, .v (.bin .leq (.bin .add (.bin .add (.len (.fld (.star (.s 0)) 5)) (.len (.fld (.star (.s 0)) 6))) (.s 2)) (.fld (.star (.s 0)) 1)))]⟩)
.ret)),
[(1, .v)]⟩
theorem c110 : compFn Try.prog fresh sig [.fz] [] Try.f110 = some p110 := by kernel_rfl
/-- (*cromlech/check.state).words -/
def p113 : Fn := ⟨3, [0, 1, 4],
(.seq
(.reg ⟨[], [], [(2, .v (.c (.sl [])))]⟩)
(.seq
(.reg ⟨[], [], [(2, .v (.ai (.ag [(.fld (.star (.s 0)) 5), (.fld (.star (.s 0)) 6), (.fld (.star (.s 0)) 7), (.fld (.star (.s 0)) 8)]) (.bin .sub (.s 1) (.c (.int .i64 (1)))) 4 1 false))]⟩)
.ret)),
[(2, .v)]⟩
theorem c113 : compFn Try.prog fresh sig [.fz, .fz] [] Try.f113 = some p113 := by kernel_rfl
/-- (*cromlech/check.state).shapes -/
def p115 : Fn := ⟨14, [0, 1, 4, 5, 6, 15, 7, 8, 9, 25, 10, 11, 36, 52],
(.seq
(.reg ⟨[], [], [(2, .v (.c (.sl [])))]⟩)
(.seq
(.reg ⟨[], [], [(3, .v (.c (.sl [])))]⟩)
(.seq
(.seq
(.reg ⟨[], [], [(4, .v (.c (.int .i64 (0))))]⟩)
(.block 0
 (.loop [0, 1, 2, 3, 4]
  (.seq
  (.seq
  (.reg ⟨[], [], [(5, .v (.bin .lss (.s 4) (.len (.s 1))))]⟩)
  (.cond (.s 5)
   .skip
   (.exit 0)))
  (.block 1
   (.seq
   (.reg ⟨[], [], [(6, .m [(.c (.int .i64 (0))), (.c (.int .i64 (0)))])]⟩)
   (.seq
   (.seq
   (.reg ⟨[.call 14 [] (.id 57) false false [(.fld (.idx (.s 1) (.s 4) 1) 0)]], [], [(7, .v (.ext (.s 14) 0)), (8, .v (.ext (.s 14) 1))]⟩)
   (.seq
   (.reg ⟨[], [], [(9, .v (.bin .eql (.s 8) (.c (.int .i64 (0)))))]⟩)
   (.cond (.s 9)
    (.seq
    (.reg ⟨[], [], [(10, .m [(.fld (.sz (.ext (.lk (.i .u64) (.fld (.star (.s 0)) 22) (.s 7) (.agg [(.int .i64 (0)), (.int .i64 (0))]) true) 0) 2) 0), (.fld (.sz (.ext (.lk (.i .u64) (.fld (.star (.s 0)) 22) (.s 7) (.agg [(.int .i64 (0)), (.int .i64 (0))]) true) 0) 2) 1)]), (11, .v (.ext (.lk (.i .u64) (.fld (.star (.s 0)) 22) (.s 7) (.agg [(.int .i64 (0)), (.int .i64 (0))]) true) 1))]⟩)
    (.seq
    (.seq
    (.reg ⟨[], [], [(12, .v (.un .not (.s 11)))]⟩)
    (.cond (.s 12)
     (.seq
     (.reg ⟨[], [], [(2, .v (.s 3)), (3, .no)]⟩)
     .ret)
     .skip))
    (.seq
    (.reg ⟨[], [], [(6, .m [(.fld (.mm 10 0 2) 0), (.fld (.mm 10 0 2) 1)])]⟩)
    (.reg ⟨[], [], [(3, .v (.app (.s 3) (.lit [(.mm 6 0 2)]) 2))]⟩))))
    (.seq
    (.reg ⟨[.call 15 [] (.id 60) false false [(.fld (.idx (.s 1) (.s 4) 1) 0)]], [], [(6, .m [(.fld (.sz (.ext (.s 15) 0) 2) 0), (.fld (.sz (.ext (.s 15) 0) 2) 1)]), (8, .v (.ext (.s 15) 1))]⟩)
    (.seq
    (.reg ⟨[], [], [(13, .v (.bin .neq (.s 8) (.c (.int .i64 (0)))))]⟩)
    (.cond (.s 13)
     (.seq
     (.reg ⟨[], [], [(2, .v (.s 3)), (3, .no)]⟩)
     .ret)
     .skip))))))
   (.reg ⟨[], [], [(4, .v (.bin .add (.s 4) (.bin .add (.c (.int .i64 (1))) (.m 6 0))))]⟩))))))))
(.seq
(.reg ⟨[], [], [(2, .v (.s 3)), (3, .no)]⟩)
.ret)))),
[(2, .v)]⟩
theorem c115 : compFn Try.prog fresh sig [.fz, .fz] [] Try.f115 = some p115 := by kernel_rfl
/-- (*cromlech/check.state).note -/
def p116 : Fn := ⟨11, [0, 1, 2, 19, 18, 20, 7, 17, 8, 9, 42],
(.seq
(.reg ⟨[], [([], (.ai (.c (.agg [(.bool true), (.bool true), (.bool true), (.bool true)])) (.bin .sub (.s 1) (.c (.int .i64 (1)))) 4 1 false))], [(0, .m [(.m 0 0), (.m 0 1), (.m 0 2), (.m 0 3), (.m 0 4), (.m 0 5), (.m 0 6), (.m 0 7), (.m 0 8), (.m 0 9), (.m 0 10), (.m 0 11), (.m 0 12), (.m 0 13), (.m 0 14), (.m 0 15), (.m 0 16), (.fld (.aput (.mm 0 17 4) (.bin .sub (.s 1) (.c (.int .i64 (1)))) 4 1 (.one (.s 2))) 0), (.fld (.aput (.mm 0 17 4) (.bin .sub (.s 1) (.c (.int .i64 (1)))) 4 1 (.one (.s 2))) 1), (.fld (.aput (.mm 0 17 4) (.bin .sub (.s 1) (.c (.int .i64 (1)))) 4 1 (.one (.s 2))) 2), (.fld (.aput (.mm 0 17 4) (.bin .sub (.s 1) (.c (.int .i64 (1)))) 4 1 (.one (.s 2))) 3), (.m 0 21), (.m 0 22)])]⟩)
(.seq
(.reg ⟨[], [], [(3, .v (.c (.int .i64 (0)))), (4, .v (.len (.s 2))), (7, .v (.s 2))]⟩)
(.block 0
 (.loop [0, 1, 2, 3, 4, 7]
  (.seq
  (.reg ⟨[], [], [(5, .v (.bin .lss (.s 3) (.s 4)))]⟩)
  (.seq
  (.cond (.s 5)
   .skip
   (.exit 0))
  (.seq
  (.block 1
   (.seq
   (.reg ⟨[], [], [(6, .m [(.fld (.flds (.idx (.s 7) (.s 3) 5) 0 5) 0), (.fld (.flds (.idx (.s 7) (.s 3) 5) 0 5) 1), (.fld (.flds (.idx (.s 7) (.s 3) 5) 0 5) 2), (.fld (.flds (.idx (.s 7) (.s 3) 5) 0 5) 3), (.fld (.flds (.idx (.s 7) (.s 3) 5) 0 5) 4)])]⟩)
   (.seq
   (.reg ⟨[.call 11 [] (.id 39) false false [(.mm 0 10 7), (.ag [(.one (.s 1)), (.m 6 0)])]], [], [(8, .v (.ext (.s 11) 0)), (9, .v (.ext (.s 11) 1))]⟩)
   (.seq
   (.reg ⟨[], [], [(0, .m [(.m 0 0), (.m 0 1), (.m 0 2), (.m 0 3), (.m 0 4), (.m 0 5), (.m 0 6), (.m 0 7), (.m 0 8), (.m 0 9), (.m 0 10), (.m 0 11), (.m 0 12), (.m 0 13), (.m 0 14), (.m 0 15), (.m 0 16), (.m 0 17), (.m 0 18), (.m 0 19), (.m 0 20), (.mput (.i .u64) (.m 0 21) (.s 8) (.s 1)), (.m 0 22)])]⟩)
   (.seq
   (.reg ⟨[], [], [(10, .v (.bin .eql (.s 1) (.c (.int .i64 (1)))))]⟩)
   (.cond (.s 10)
    (.reg ⟨[], [], [(0, .m [(.m 0 0), (.m 0 1), (.m 0 2), (.m 0 3), (.m 0 4), (.m 0 5), (.m 0 6), (.m 0 7), (.m 0 8), (.m 0 9), (.m 0 10), (.m 0 11), (.m 0 12), (.m 0 13), (.m 0 14), (.m 0 15), (.m 0 16), (.m 0 17), (.m 0 18), (.m 0 19), (.m 0 20), (.m 0 21), (.mput (.i .u64) (.m 0 22) (.s 8) (.mm 6 1 2))])]⟩)
    .skip))))))
  (.reg ⟨[], [], [(3, .v (.bin .add (.s 3) (.c (.int .i64 (1)))))]⟩)))))))),
[]⟩
theorem c116 : compFn Try.prog fresh sig [(.mem [.fz, .fz, .fz, .fz, .fz, .fz, .fz, .fz, .fz, .fz, .fz, .fz, .fz, .fz, .fz, .fz, .fz, .fz, .fz, .fz, .fz, (.own 119), (.own 120)]), .fz, .fz] [(0, (.mem [.fz, .fz, .fz, .fz, .fz, .fz, .fz, .fz, .fz, .fz, .fz, .fz, .fz, .fz, .fz, .fz, .fz, .fz, .fz, .fz, .fz, (.own 119), (.own 120)]))] Try.f116 = some p116 := by kernel_rfl
/-- (*cromlech/check.state).points -/
def p117 : Fn := ⟨11, [0, 1, 2, 3, 8, 14, 9, 10, 21, 11, 12],
(.seq
(.reg ⟨[], [], [(4, .v (.c (.bool false)))]⟩)
(.seq
(.seq
(.reg ⟨[], [], [(5, .v (.bin .eql (.s 1) (.c (.int .u64 (0)))))]⟩)
(.cond (.s 5)
 (.seq
 (.reg ⟨[], [], [(4, .v (.c (.bool true)))]⟩)
 .ret)
 .skip))
(.seq
(.reg ⟨[.call 11 [] (.id 57) false false [(.s 1)]], [], [(6, .v (.ext (.s 11) 0)), (7, .v (.ext (.s 11) 1))]⟩)
(.seq
(.seq
(.reg ⟨[], [], [(8, .v (.bin .neq (.s 7) (.c (.int .i64 (0)))))]⟩)
(.cond (.s 8)
 (.seq
 (.reg ⟨[], [], [(4, .v (.c (.bool false)))]⟩)
 .ret)
 .skip))
(.seq
(.reg ⟨[], [], [(9, .v (.ext (.lk (.i .u64) (.fld (.star (.s 0)) 21) (.s 6) (.int .i64 (0)) true) 0)), (10, .v (.ext (.lk (.i .u64) (.fld (.star (.s 0)) 21) (.s 6) (.int .i64 (0)) true) 1))]⟩)
(.seq
(.reg ⟨[.lt 12 [] (.s 10), .lt 13 [] (.ite (.s 12) (.bin .geq (.s 9) (.s 2)) (.c (.bool false)))], [([(12, true)], (.bin .geq (.s 9) (.s 2))), ([(13, true)], (.bin .leq (.s 9) (.s 3)))], [(4, .v (.ite (.s 13) (.bin .leq (.s 9) (.s 3)) (.c (.bool false))))]⟩)
.ret)))))),
[(4, .v)]⟩
theorem c117 : compFn Try.prog fresh sig [.fz, .fz, .fz, .fz] [] Try.f117 = some p117 := by kernel_rfl
/-- (*cromlech/check.state).pointers -/
def p118 : Fn := ⟨17, [0, 1, 2, 6, 7, 23, 22, 24, 9, 21, 28, 32, 31, 33, 10, 11, 47],
(.seq
(.reg ⟨[], [], [(3, .v (.c (.bool false)))]⟩)
(.seq
(.reg ⟨[.call 17 [] (.id 113) false false [(.s 0), (.s 1)]], [], [(4, .v (.s 17))]⟩)
(.seq
(.seq
(.reg ⟨[], [], [(5, .v (.c (.int .i64 (0)))), (6, .v (.len (.fld (.ai (.flds (.star (.s 0)) 17 4) (.bin .sub (.s 1) (.c (.int .i64 (1)))) 4 1 true) 0))), (9, .v (.fld (.ai (.flds (.star (.s 0)) 17 4) (.bin .sub (.s 1) (.c (.int .i64 (1)))) 4 1 true) 0))]⟩)
(.block 0
 (.loop [0, 1, 2, 3, 4, 5, 6, 9]
  (.seq
  (.reg ⟨[], [], [(7, .v (.bin .lss (.s 5) (.s 6)))]⟩)
  (.seq
  (.cond (.s 7)
   .skip
   (.exit 0))
  (.seq
  (.block 1
   (.seq
   (.reg ⟨[], [], [(8, .m [(.fld (.flds (.idx (.s 9) (.s 5) 5) 0 5) 0), (.fld (.flds (.idx (.s 9) (.s 5) 5) 0 5) 1), (.fld (.flds (.idx (.s 9) (.s 5) 5) 0 5) 2), (.fld (.flds (.idx (.s 9) (.s 5) 5) 0 5) 3), (.fld (.flds (.idx (.s 9) (.s 5) 5) 0 5) 4)])]⟩)
   (.seq
   (.seq
   (.reg ⟨[], [], [(10, .v (.m 8 3))]⟩)
   (.cond (.s 10)
    (.exit 1)
    .skip))
   (.seq
   (.reg ⟨[], [], [(11, .v (.c (.int .i64 (0)))), (12, .v (.m 8 2))]⟩)
   (.block 2
    (.loop [0, 1, 2, 3, 4, 5, 6, 7, 8, 9, 10, 11, 12]
     (.seq
     (.reg ⟨[], [], [(13, .v (.bin .lss (.s 11) (.s 12)))]⟩)
     (.seq
     (.cond (.s 13)
      .skip
      (.exit 2))
     (.seq
     (.block 3
      (.seq
      (.reg ⟨[], [], [(14, .v (.s 11))]⟩)
      (.seq
      (.reg ⟨[], [], [(15, .v (.bin .add (.bin .add (.m 8 0) (.c (.int .i64 (1)))) (.s 14)))]⟩)
      (.seq
      (.reg ⟨[.call 18 [] (.e (.s 2)) false false [(.s 15), (.fld (.idx (.s 4) (.s 15) 1) 0)]], [], [(16, .v (.un .not (.s 18)))]⟩)
      (.cond (.s 16)
       (.seq
       (.reg ⟨[], [], [(3, .v (.c (.bool false)))]⟩)
       .ret)
       .skip)))))
     (.reg ⟨[], [], [(11, .v (.bin .add (.s 11) (.c (.int .i64 (1)))))]⟩))))))))))
  (.reg ⟨[], [], [(5, .v (.bin .add (.s 5) (.c (.int .i64 (1)))))]⟩)))))))
(.seq
(.reg ⟨[], [], [(3, .v (.c (.bool true)))]⟩)
.ret)))),
[(3, .v)]⟩
theorem c118 : compFn Try.prog fresh sig [.fz, .fz, .fz] [] Try.f118 = some p118 := by kernel_rfl
/-- cromlech/check.settled$1 -/
def p119 : Fn := ⟨4, [0, 1, 2, 5],
(.seq
(.reg ⟨[], [], [(3, .v (.c (.bool false)))]⟩)
(.seq
(.reg ⟨[.call 4 [] (.id 117) false false [(.fld (.star (.s 2)) 0), (.s 1), (.c (.int .i64 (1))), (.c (.int .i64 (2)))]], [], [(3, .v (.s 4))]⟩)
.ret)),
[(3, .v)]⟩
theorem c119 : compFn Try.prog fresh sig [.fz, .fz, .fz] [] Try.f119 = some p119 := by kernel_rfl
/-- cromlech/check.settled$2 -/
def p120 : Fn := ⟨4, [0, 1, 2, 5],
(.seq
(.reg ⟨[], [], [(3, .v (.c (.bool false)))]⟩)
(.seq
(.reg ⟨[.lt 4 [] (.bin .geq (.s 0) (.fld (.star (.fld (.star (.s 2)) 0)) 4)), .call 5 [(4, false)] (.id 117) false false [(.fld (.star (.s 2)) 0), (.s 1), (.c (.int .i64 (1))), (.c (.int .i64 (2)))]], [], [(3, .v (.ite (.s 4) (.c (.bool true)) (.s 5)))]⟩)
.ret)),
[(3, .v)]⟩
theorem c120 : compFn Try.prog fresh sig [.fz, .fz, .fz] [] Try.f120 = some p120 := by kernel_rfl
/-- cromlech/check.unscanned$1 -/
def p121 : Fn := ⟨4, [0, 1, 2, 5],
(.seq
(.reg ⟨[], [], [(3, .v (.c (.bool false)))]⟩)
(.seq
(.reg ⟨[.lt 4 [] (.bin .lss (.s 0) (.fld (.star (.fld (.star (.s 2)) 0)) 4)), .call 5 [(4, false)] (.id 117) false false [(.fld (.star (.s 2)) 0), (.s 1), (.c (.int .i64 (1))), (.c (.int .i64 (4)))]], [], [(3, .v (.ite (.s 4) (.c (.bool true)) (.s 5)))]⟩)
.ret)),
[(3, .v)]⟩
theorem c121 : compFn Try.prog fresh sig [.fz, .fz, .fz] [] Try.f121 = some p121 := by kernel_rfl
/-- cromlech/check.left$1 -/
def p122 : Fn := ⟨4, [0, 1, 2, 5],
(.seq
(.reg ⟨[], [], [(3, .v (.c (.bool false)))]⟩)
(.seq
(.reg ⟨[.call 4 [] (.id 117) false false [(.fld (.star (.s 2)) 0), (.s 1), (.c (.int .i64 (3))), (.c (.int .i64 (4)))]], [], [(3, .v (.s 4))]⟩)
.ret)),
[(3, .v)]⟩
theorem c122 : compFn Try.prog fresh sig [.fz, .fz, .fz] [] Try.f122 = some p122 := by kernel_rfl
end Vm
