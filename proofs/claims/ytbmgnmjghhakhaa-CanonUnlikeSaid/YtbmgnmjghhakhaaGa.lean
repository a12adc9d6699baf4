/-
  MADE BY A PROGRAM: programs that the compiler makes of functions, and that it makes them.
-/
import Derived.Test.YtbmgnmjghhakhaaGs
namespace Vm
open Go
open Go.Proofs
set_option maxRecDepth 100000
/-- cromlech/cromlechlaw09.awake -/
def p15 : Fn := ⟨6, [0, 1, 2, 3, 4, 5],
(.seq
(.reg ⟨[], [], [(0, .v (.c (.bool false)))]⟩)
(.seq
(.reg ⟨[], [([], (.ag [(.lit [(.ag [(.c (.sl [])), (.c (.sl []))]), (.ag [(.c (.sl [])), (.lit [(.c (.int .u64 (4)))])]), (.ag [(.lit [(.c (.int .i64 (1)))]), (.c (.sl []))]), (.ag [(.c (.sl [])), (.c (.sl []))])]), (.lit [(.c (.int .i64 (2))), (.c (.int .i64 (0)))])]))], [(1, .m [(.lit [(.ag [(.c (.sl [])), (.c (.sl []))]), (.ag [(.c (.sl [])), (.lit [(.c (.int .u64 (4)))])]), (.ag [(.lit [(.c (.int .i64 (1)))]), (.c (.sl []))]), (.ag [(.c (.sl [])), (.c (.sl []))])]), (.lit [(.c (.int .i64 (2))), (.c (.int .i64 (0)))])])]⟩)
(.seq
(.reg ⟨[.call 6 [] 20 false false [(.mm 1 0 2)]], [], [(2, .m [(.fld (.sz (.ext (.s 6) 0) 2) 0), (.fld (.sz (.ext (.s 6) 0) 2) 1)]), (3, .v (.fl (.ext (.s 6) 1)))]⟩)
(.seq
(.reg ⟨[.call 7 [] 20 false false [(.ag [(.c (.sl [])), (.lit [(.c (.int .i64 (0)))])])]], [], [(4, .m [(.fld (.sz (.ext (.s 7) 0) 2) 0), (.fld (.sz (.ext (.s 7) 0) 2) 1)]), (5, .v (.ext (.s 7) 1))]⟩)
(.seq
(.reg ⟨[.call 8 [] 23 false false [(.mm 1 0 2)], .call 9 [] 22 false false [(.s 8), (.lit [(.c (.int .i64 (2))), (.c (.int .i64 (0))), (.c (.int .i64 (1)))])], .lt 10 [] (.s 9), .lt 11 [] (.ite (.s 10) (.bin .eql (.s 3) (.c (.int .i64 (0)))) (.c (.bool false))), .call 12 [(11, true)] 25 false false [(.mm 2 0 2), (.ag [(.lit [(.ag [(.lit [(.c (.int .i64 (2)))]), (.c (.sl []))]), (.ag [(.c (.sl [])), (.c (.sl []))]), (.ag [(.c (.sl [])), (.lit [(.c (.int .u64 (4)))])])]), (.lit [(.c (.int .i64 (0))), (.c (.int .i64 (1)))])])], .lt 13 [] (.ite (.s 11) (.s 12) (.c (.bool false))), .lt 14 [] (.ite (.s 13) (.bin .eql (.s 5) (.c (.int .i64 (1)))) (.c (.bool false))), .call 15 [(14, true)] 26 false false [(.mm 1 0 2), (.mm 2 0 2)], .lt 16 [] (.ite (.s 14) (.s 15) (.c (.bool false))), .call 17 [(16, true)] 26 false false [(.mm 1 0 2), (.ag [(.c (.sl [])), (.lit [(.c (.int .i64 (-1))), (.c (.int .i64 (-1)))])])]], [([(10, true)], (.bin .eql (.s 3) (.c (.int .i64 (0))))), ([(13, true)], (.bin .eql (.s 5) (.c (.int .i64 (1))))), ([(16, true)], (.un .not (.s 17)))], [(0, .v (.ite (.s 16) (.un .not (.s 17)) (.c (.bool false))))]⟩)
.ret))))),
[(0, .v)]⟩
theorem c15 : compFn Try.prog fresh sig [] [] Try.f15 = some p15 := by kernel_rfl
/-- cromlech/cromlechlaw08.Graph -/
def p16 : Fn := ⟨13, [0, 1, 4, 5, 6, 7, 16, 8, 9, 30, 10, 78, 97],
(.seq
(.reg ⟨[], [], [(2, .m [(.c (.sl [])), (.c (.sl []))])]⟩)
(.seq
(.reg ⟨[], [], [(3, .v (.mn (.len (.s 0)) (.c (.int .i64 (10)))))]⟩)
(.seq
(.reg ⟨[], [], [(4, .m [(.c (.sl [])), (.c (.sl []))])]⟩)
(.seq
(.seq
(.reg ⟨[], [], [(5, .v (.c (.int .i64 (0))))]⟩)
(.block 0
 (.loop [0, 1, 2, 3, 4, 5]
  (.seq
  (.seq
  (.reg ⟨[], [], [(6, .v (.bin .lss (.s 5) (.s 3)))]⟩)
  (.cond (.s 6)
   .skip
   (.exit 0)))
  (.seq
  (.block 1
   (.seq
   (.reg ⟨[], [], [(7, .m [(.c (.sl [])), (.c (.sl []))])]⟩)
   (.seq
   (.seq
   (.reg ⟨[], [], [(8, .v (.c (.int .i64 (0))))]⟩)
   (.block 2
    (.loop [0, 1, 2, 3, 4, 5, 6, 7, 8]
     (.seq
     (.seq
     (.reg ⟨[.lt 13 [] (.bin .lss (.s 8) (.len (.fld (.idx (.s 0) (.s 5) 2) 0)))], [([(13, true)], (.bin .lss (.s 8) (.c (.int .i64 (4)))))], [(9, .v (.ite (.s 13) (.bin .lss (.s 8) (.c (.int .i64 (4)))) (.c (.bool false))))]⟩)
     (.cond (.s 9)
      .skip
      (.exit 2)))
     (.seq
     (.block 3
      (.reg ⟨[.call 14 [] 34 false false [(.fld (.idx (.fld (.idx (.s 0) (.s 5) 2) 0) (.s 8) 1) 0), (.bin .add (.s 3) (.c (.int .i64 (1))))]], [], [(7, .m [(.app (.m 7 0) (.lit [(.bin .sub (.s 14) (.c (.int .i64 (1))))]) 1), (.m 7 1)])]⟩))
     (.reg ⟨[], [], [(8, .v (.bin .add (.s 8) (.c (.int .i64 (1)))))]⟩))))))
   (.seq
   (.reg ⟨[], [], [(7, .m [(.m 7 0), (.app (.c (.sl [])) (.slc (.fld (.idx (.s 0) (.s 5) 2) 1) (.c (.int .i64 (0))) (.mn (.len (.fld (.idx (.s 0) (.s 5) 2) 1)) (.c (.int .i64 (4)))) 1) 1)])]⟩)
   (.reg ⟨[], [], [(4, .m [(.app (.m 4 0) (.lit [(.mm 7 0 2)]) 2), (.m 4 1)])]⟩)))))
  (.reg ⟨[], [], [(5, .v (.bin .add (.s 5) (.c (.int .i64 (1)))))]⟩))))))
(.seq
(.seq
(.reg ⟨[], [], [(10, .v (.c (.int .i64 (0))))]⟩)
(.block 4
 (.loop [0, 1, 2, 3, 4, 5, 6, 10]
  (.seq
  (.seq
  (.reg ⟨[.lt 15 [] (.bin .lss (.s 10) (.len (.s 1)))], [([(15, true)], (.bin .lss (.s 10) (.c (.int .i64 (5)))))], [(11, .v (.ite (.s 15) (.bin .lss (.s 10) (.c (.int .i64 (5)))) (.c (.bool false))))]⟩)
  (.cond (.s 11)
   .skip
   (.exit 4)))
  (.seq
  (.block 5
   (.reg ⟨[.call 16 [] 34 false false [(.fld (.idx (.s 1) (.s 10) 1) 0), (.bin .add (.s 3) (.c (.int .i64 (1))))]], [], [(4, .m [(.m 4 0), (.app (.m 4 1) (.lit [(.bin .sub (.s 16) (.c (.int .i64 (1))))]) 1)])]⟩))
  (.reg ⟨[], [], [(10, .v (.bin .add (.s 10) (.c (.int .i64 (1)))))]⟩))))))
(.seq
(.seq
(.reg ⟨[], [], [(12, .v (.bin .eql (.len (.m 4 1)) (.c (.int .i64 (0)))))]⟩)
(.cond (.s 12)
 (.reg ⟨[], [], [(4, .m [(.m 4 0), (.app (.m 4 1) (.lit [(.bin .sub (.s 3) (.c (.int .i64 (1))))]) 1)])]⟩)
 .skip))
(.seq
(.reg ⟨[], [], [(2, .m [(.fld (.mm 4 0 2) 0), (.fld (.mm 4 0 2) 1)])]⟩)
.ret))))))),
[(2, (.ag 2))]⟩
theorem c16 : compFn Try.prog fresh sig [.fz, .fz] [] Try.f16 = some p16 := by kernel_rfl
/-- cromlech/canon.Canon -/
def p20 : Fn := ⟨5, [0, 1, 2, 3, 6],
(.seq
(.reg ⟨[], [], [(1, .m [(.fld (.sz (.s 0) 2) 0), (.fld (.sz (.s 0) 2) 1)]), (2, .m [(.c (.sl [])), (.c (.sl []))]), (3, .v (.c (.int .i64 (0))))]⟩)
(.seq
(.seq
(.reg ⟨[.call 5 [] 28 false false [(.mm 1 0 2)]], [], [(4, .v (.un .not (.s 5)))]⟩)
(.cond (.s 4)
 (.seq
 (.reg ⟨[], [([], (.ag [(.c (.sl [])), (.c (.sl []))]))], [(2, .m [(.c (.sl [])), (.c (.sl []))]), (3, .v (.c (.int .i64 (1))))]⟩)
 .ret)
 .skip))
(.seq
(.reg ⟨[.callm 6 [] (.id 42) [.fz, (.own 72)] [(.mm 1 0 2), (.c (.mp 0 [] []))]], [], [(2, .m [(.fld (.sz (.ext (.s 6) 0) 2) 0), (.fld (.sz (.ext (.s 6) 0) 2) 1)]), (3, .v (.c (.int .i64 (0))))]⟩)
.ret))),
[(2, (.ag 2)), (3, .v)]⟩
theorem c20 : compFn Try.prog fresh sig [.fz] [] Try.f20 = some p20 := by kernel_rfl
/-- cromlech/cromlechref06.Ints -/
def p22 : Fn := ⟨7, [0, 1, 4, 10, 5, 14, 25],
(.seq
(.reg ⟨[], [], [(2, .v (.c (.bool false)))]⟩)
(.seq
(.seq
(.reg ⟨[], [], [(3, .v (.bin .neq (.len (.s 0)) (.len (.s 1))))]⟩)
(.cond (.s 3)
 (.seq
 (.reg ⟨[], [], [(2, .v (.c (.bool false)))]⟩)
 .ret)
 .skip))
(.seq
(.seq
(.reg ⟨[], [], [(4, .v (.c (.int .i64 (0))))]⟩)
(.block 0
 (.loop [0, 1, 2, 3, 4]
  (.seq
  (.seq
  (.reg ⟨[], [], [(5, .v (.bin .lss (.s 4) (.len (.s 0))))]⟩)
  (.cond (.s 5)
   .skip
   (.exit 0)))
  (.seq
  (.block 1
   (.seq
   (.reg ⟨[], [], [(6, .v (.bin .neq (.fld (.idx (.s 0) (.s 4) 1) 0) (.fld (.idx (.s 1) (.s 4) 1) 0)))]⟩)
   (.cond (.s 6)
    (.seq
    (.reg ⟨[], [], [(2, .v (.c (.bool false)))]⟩)
    .ret)
    .skip)))
  (.reg ⟨[], [], [(4, .v (.bin .add (.s 4) (.c (.int .i64 (1)))))]⟩))))))
(.seq
(.reg ⟨[], [], [(2, .v (.c (.bool true)))]⟩)
.ret)))),
[(2, .v)]⟩
theorem c22 : compFn Try.prog fresh sig [.fz, .fz] [] Try.f22 = some p22 := by kernel_rfl
/-- cromlech/canon.Order -/
def p23 : Fn := ⟨4, [0, 1, 2, 5],
(.seq
(.reg ⟨[], [], [(1, .m [(.fld (.sz (.s 0) 2) 0), (.fld (.sz (.s 0) 2) 1)]), (2, .v (.c (.sl [])))]⟩)
(.seq
(.seq
(.reg ⟨[.call 4 [] 28 false false [(.mm 1 0 2)]], [], [(3, .v (.un .not (.s 4)))]⟩)
(.cond (.s 3)
 (.seq
 (.reg ⟨[], [], []⟩)
 .ret)
 .skip))
(.seq
(.reg ⟨[.callm 5 [] (.id 44) [.fz, (.own 72)] [(.mm 1 0 2), (.c (.mp 0 [] []))]], [], [(2, .v (.ext (.s 5) 0))]⟩)
.ret))),
[(2, .v)]⟩
theorem c23 : compFn Try.prog fresh sig [.fz] [] Try.f23 = some p23 := by kernel_rfl
/-- cromlech/cromlechref08.Same -/
def p25 : Fn := ⟨12, [0, 1, 2, 3, 4, 5, 24, 6, 29, 7, 8, 63],
(.seq
(.reg ⟨[], [], [(2, .m [(.fld (.sz (.s 0) 2) 0), (.fld (.sz (.s 0) 2) 1)]), (3, .m [(.fld (.sz (.s 1) 2) 0), (.fld (.sz (.s 1) 2) 1)]), (4, .v (.c (.bool false)))]⟩)
(.seq
(.reg ⟨[.call 12 [] 22 false false [(.m 2 1), (.m 3 1)]], [], [(5, .v (.s 12))]⟩)
(.seq
(.seq
(.reg ⟨[.lt 13 [] (.un .not (.s 5))], [([(13, false)], (.bin .neq (.len (.m 2 0)) (.len (.m 3 0))))], [(6, .v (.ite (.s 13) (.c (.bool true)) (.bin .neq (.len (.m 2 0)) (.len (.m 3 0)))))]⟩)
(.cond (.s 6)
 (.seq
 (.reg ⟨[], [], [(4, .v (.c (.bool false)))]⟩)
 .ret)
 .skip))
(.seq
(.seq
(.reg ⟨[], [], [(7, .v (.c (.int .i64 (0))))]⟩)
(.block 0
 (.loop [0, 1, 2, 3, 4, 5, 6, 7]
  (.seq
  (.seq
  (.reg ⟨[], [], [(8, .v (.bin .lss (.s 7) (.len (.m 2 0))))]⟩)
  (.cond (.s 8)
   .skip
   (.exit 0)))
  (.seq
  (.block 1
   (.seq
   (.reg ⟨[.call 14 [] 22 false false [(.fld (.idx (.m 2 0) (.s 7) 2) 0), (.fld (.idx (.m 3 0) (.s 7) 2) 0)]], [], [(9, .v (.s 14))]⟩)
   (.seq
   (.reg ⟨[.call 15 [] 46 false false [(.fld (.idx (.m 2 0) (.s 7) 2) 1), (.fld (.idx (.m 3 0) (.s 7) 2) 1)]], [], [(10, .v (.s 15))]⟩)
   (.seq
   (.reg ⟨[.lt 16 [] (.un .not (.s 9))], [([(16, false)], (.un .not (.s 10)))], [(11, .v (.ite (.s 16) (.c (.bool true)) (.un .not (.s 10))))]⟩)
   (.cond (.s 11)
    (.seq
    (.reg ⟨[], [], [(4, .v (.c (.bool false)))]⟩)
    .ret)
    .skip)))))
  (.reg ⟨[], [], [(7, .v (.bin .add (.s 7) (.c (.int .i64 (1)))))]⟩))))))
(.seq
(.reg ⟨[], [], [(4, .v (.c (.bool true)))]⟩)
.ret))))),
[(4, .v)]⟩
theorem c25 : compFn Try.prog fresh sig [.fz, .fz] [] Try.f25 = some p25 := by kernel_rfl
/-- cromlech/canon.Alike -/
def p26 : Fn := ⟨9, [0, 1, 2, 3, 4, 15, 5, 6, 7],
(.seq
(.reg ⟨[], [], [(2, .m [(.fld (.sz (.s 0) 2) 0), (.fld (.sz (.s 0) 2) 1)]), (3, .m [(.fld (.sz (.s 1) 2) 0), (.fld (.sz (.s 1) 2) 1)]), (4, .v (.c (.bool false)))]⟩)
(.seq
(.seq
(.reg ⟨[.call 9 [] 28 false false [(.mm 2 0 2)], .lt 10 [] (.un .not (.s 9)), .call 11 [(10, false)] 28 false false [(.mm 3 0 2)]], [([(10, false)], (.un .not (.s 11)))], [(5, .v (.ite (.s 10) (.c (.bool true)) (.un .not (.s 11))))]⟩)
(.cond (.s 5)
 (.seq
 (.reg ⟨[], [], [(4, .v (.c (.bool false)))]⟩)
 .ret)
 .skip))
(.seq
(.reg ⟨[], [], [(6, .v (.c (.mp 0 [] [])))]⟩)
(.seq
(.reg ⟨[.callm 12 [] (.id 42) [.fz, (.own 72)] [(.mm 2 0 2), (.s 6)]], [], [(6, .v (.ext (.s 12) 1)), (7, .m [(.fld (.sz (.ext (.s 12) 0) 2) 0), (.fld (.sz (.ext (.s 12) 0) 2) 1)])]⟩)
(.seq
(.reg ⟨[.callm 13 [] (.id 42) [.fz, (.own 72)] [(.mm 3 0 2), (.s 6)]], [], [(6, .v (.ext (.s 13) 1)), (8, .m [(.fld (.sz (.ext (.s 13) 0) 2) 0), (.fld (.sz (.ext (.s 13) 0) 2) 1)])]⟩)
(.seq
(.reg ⟨[.call 14 [] 47 false false [(.m 7 1), (.m 8 1)], .lt 15 [] (.s 14), .call 16 [(15, true)] 48 false false [(.m 7 0), (.m 8 0), (.c (.fn 49))]], [], [(4, .v (.ite (.s 15) (.s 16) (.c (.bool false))))]⟩)
.ret)))))),
[(4, .v)]⟩
theorem c26 : compFn Try.prog fresh sig [.fz, .fz] [] Try.f26 = some p26 := by kernel_rfl
/-- cromlech/graph.Right -/
def p28 : Fn := ⟨11, [0, 1, 2, 9, 3, 14, 13, 15, 5, 12, 32],
(.seq
(.reg ⟨[], [], [(1, .m [(.fld (.sz (.s 0) 2) 0), (.fld (.sz (.s 0) 2) 1)]), (2, .v (.c (.bool false)))]⟩)
(.seq
(.seq
(.reg ⟨[], [], [(3, .v (.bin .gtr (.len (.m 1 1)) (.c (.int .i64 (16)))))]⟩)
(.cond (.s 3)
 (.seq
 (.reg ⟨[], [], [(2, .v (.c (.bool false)))]⟩)
 .ret)
 .skip))
(.seq
(.reg ⟨[], [], [(4, .no)]⟩)
(.seq
(.seq
(.reg ⟨[], [], [(4, .no), (5, .v (.c (.int .i64 (0)))), (6, .v (.len (.m 1 0))), (9, .v (.m 1 0))]⟩)
(.block 0
 (.loop [0, 1, 2, 3, 4, 5, 6, 9]
  (.seq
  (.reg ⟨[], [], [(4, .no), (7, .v (.bin .lss (.s 5) (.s 6)))]⟩)
  (.seq
  (.cond (.s 7)
   .skip
   (.exit 0))
  (.seq
  (.block 1
   (.seq
   (.reg ⟨[], [], [(4, .no), (8, .m [(.fld (.flds (.idx (.s 9) (.s 5) 2) 0 2) 0), (.fld (.flds (.idx (.s 9) (.s 5) 2) 0 2) 1)])]⟩)
   (.seq
   (.reg ⟨[.lt 11 [] (.bin .gtr (.bin .add (.len (.m 8 0)) (.len (.m 8 1))) (.c (.int .i64 (255)))), .callm 12 [(11, false)] (.id 52) [.fz, (.mem [.fz, .fz])] [(.m 8 0), (.ag [(.m 1 0), (.m 1 1)])]], [([(11, false)], (.un .not (.ext (.s 12) 0)))], [(1, .m [(.fld (.ext (.s 12) 1) 0), (.fld (.ext (.s 12) 1) 1)]), (4, .no), (10, .v (.ite (.s 11) (.c (.bool true)) (.un .not (.ext (.s 12) 0))))]⟩)
   (.cond (.s 10)
    (.seq
    (.reg ⟨[], [], [(2, .v (.c (.bool false))), (4, .no)]⟩)
    .ret)
    .skip))))
  (.reg ⟨[], [], [(4, .no), (5, .v (.bin .add (.s 5) (.c (.int .i64 (1)))))]⟩)))))))
(.seq
(.reg ⟨[.callm 13 [] (.id 52) [.fz, (.mem [.fz, .fz])] [(.m 1 1), (.ag [(.m 1 0), (.m 1 1)])]], [], [(1, .m [(.fld (.ext (.s 13) 1) 0), (.fld (.ext (.s 13) 1) 1)]), (2, .v (.ext (.s 13) 0)), (4, .no)]⟩)
.ret))))),
[(2, .v)]⟩
theorem c28 : compFn Try.prog fresh sig [.fz] [] Try.f28 = some p28 := by kernel_rfl
/-- cromlech/cromlechlaw08.pick -/
def p34 : Fn := ⟨4, [0, 1, 4, 6],
(.seq
(.reg ⟨[], [], [(2, .v (.c (.int .i64 (0))))]⟩)
(.seq
(.seq
(.reg ⟨[], [], [(3, .v (.bin .lss (.s 0) (.c (.int .i64 (0)))))]⟩)
(.cond (.s 3)
 (.reg ⟨[], [], [(0, .v (.un .neg (.bin .add (.s 0) (.c (.int .i64 (1))))))]⟩)
 .skip))
(.seq
(.reg ⟨[], [], [(2, .v (.bin .rem (.s 0) (.s 1)))]⟩)
.ret))),
[(2, .v)]⟩
theorem c34 : compFn Try.prog fresh sig [.fz, .fz] [] Try.f34 = some p34 := by kernel_rfl
/-- cromlech/canon.canon -/
def p42 : Fn := ⟨11, [0, 1, 2, 4, 5, 13, 12, 14, 7, 11, 8],
(.seq
(.reg ⟨[], [], [(2, .m [(.fld (.sz (.s 0) 2) 0), (.fld (.sz (.s 0) 2) 1)]), (3, .m [(.c (.sl [])), (.c (.sl []))])]⟩)
(.seq
(.reg ⟨[], [], [(4, .m [(.c (.sl [])), (.c (.sl []))])]⟩)
(.seq
(.seq
(.reg ⟨[.callm 9 [] (.id 44) [.fz, (.own 72)] [(.mm 2 0 2), (.s 1)]], [], [(1, .v (.ext (.s 9) 1)), (5, .v (.c (.int .i64 (0)))), (6, .v (.len (.ext (.s 9) 0))), (9, .v (.ext (.s 9) 0))]⟩)
(.block 0
 (.loop [0, 1, 2, 3, 4, 5, 6, 9]
  (.seq
  (.reg ⟨[], [], [(7, .v (.bin .lss (.s 5) (.s 6)))]⟩)
  (.seq
  (.cond (.s 7)
   .skip
   (.exit 0))
  (.seq
  (.block 1
   (.seq
   (.reg ⟨[], [], [(8, .v (.fld (.idx (.s 9) (.s 5) 1) 0))]⟩)
   (.seq
   (.reg ⟨[], [], [(10, .m [(.fld (.flds (.idx (.m 2 0) (.s 8) 2) 0 2) 0), (.fld (.flds (.idx (.m 2 0) (.s 8) 2) 0 2) 1)])]⟩)
   (.reg ⟨[.call 11 [] 58 true false [(.m 10 0), (.s 1)]], [], [(4, .m [(.app (.m 4 0) (.lit [(.ag [(.one (.s 11)), (.app (.c (.sl [])) (.m 10 1) 1)])]) 2), (.m 4 1)])]⟩))))
  (.reg ⟨[], [], [(5, .v (.bin .add (.s 5) (.c (.int .i64 (1)))))]⟩)))))))
(.seq
(.reg ⟨[.call 12 [] 58 true false [(.m 2 1), (.s 1)]], [], [(4, .m [(.m 4 0), (.one (.s 12))])]⟩)
(.seq
(.reg ⟨[], [], [(3, .m [(.fld (.mm 4 0 2) 0), (.fld (.mm 4 0 2) 1)])]⟩)
.ret))))),
[(3, (.ag 2))]⟩
theorem c42 : compFn Try.prog fresh sig [.fz, (.own 72)] [(1, (.own 72))] Try.f42 = some p42 := by kernel_rfl
/-- cromlech/canon.order -/
def p44 : Fn := ⟨9, [0, 1, 2, 3, 4, 5, 6, 7, 17],
(.seq
(.reg ⟨[], [], [(1, .no), (2, .m [(.fld (.sz (.s 0) 2) 0), (.fld (.sz (.s 0) 2) 1)]), (3, .m [(.s 1)]), (4, .v (.c (.sl [])))]⟩)
(.seq
(.reg ⟨[], [], [(3, .m [(.mclr (.m 3 0))])]⟩)
(.seq
(.reg ⟨[], [], [(5, .m [(.c (.sl []))])]⟩)
(.seq
(.reg ⟨[], [], [(6, .no)]⟩)
(.seq
(.reg ⟨[.callm 9 [] (.id 60) [.fz, (.mem [(.own 72)]), (.mem [(.own 3)])] [(.m 2 1), (.ag [(.m 3 0)]), (.ag [(.m 5 0)])]], [], [(3, .m [(.fld (.ext (.s 9) 1) 0)]), (5, .m [(.fld (.ext (.s 9) 2) 0)]), (6, .no)]⟩)
(.seq
(.seq
(.reg ⟨[], [], [(6, .no), (7, .v (.c (.int .i64 (0))))]⟩)
(.block 0
 (.loop [0, 2, 3, 4, 5, 6, 7]
  (.seq
  (.seq
  (.reg ⟨[], [], [(6, .no), (8, .v (.bin .lss (.s 7) (.len (.m 5 0))))]⟩)
  (.cond (.s 8)
   .skip
   (.exit 0)))
  (.seq
  (.block 1
   (.reg ⟨[.callm 10 [] (.id 60) [.fz, (.mem [(.own 72)]), (.mem [(.own 3)])] [(.fld (.idx (.m 2 0) (.fld (.idx (.m 5 0) (.s 7) 1) 0) 2) 0), (.ag [(.m 3 0)]), (.ag [(.m 5 0)])]], [], [(3, .m [(.fld (.ext (.s 10) 1) 0)]), (5, .m [(.fld (.ext (.s 10) 2) 0)]), (6, .no)]⟩))
  (.reg ⟨[], [], [(6, .no), (7, .v (.bin .add (.s 7) (.c (.int .i64 (1)))))]⟩))))))
(.seq
(.reg ⟨[], [], [(4, .v (.m 5 0)), (6, .no)]⟩)
.ret))))))),
[(4, .v)]⟩
theorem c44 : compFn Try.prog fresh sig [.fz, (.own 72)] [(3, (.mem [(.own 72)]))] Try.f44 = some p44 := by kernel_rfl
/-- cromlech/cromlechref01.Nums -/
def p46 : Fn := ⟨7, [0, 1, 4, 10, 5, 14, 25],
(.seq
(.reg ⟨[], [], [(2, .v (.c (.bool false)))]⟩)
(.seq
(.seq
(.reg ⟨[], [], [(3, .v (.bin .neq (.len (.s 0)) (.len (.s 1))))]⟩)
(.cond (.s 3)
 (.seq
 (.reg ⟨[], [], [(2, .v (.c (.bool false)))]⟩)
 .ret)
 .skip))
(.seq
(.seq
(.reg ⟨[], [], [(4, .v (.c (.int .i64 (0))))]⟩)
(.block 0
 (.loop [0, 1, 2, 3, 4]
  (.seq
  (.seq
  (.reg ⟨[], [], [(5, .v (.bin .lss (.s 4) (.len (.s 0))))]⟩)
  (.cond (.s 5)
   .skip
   (.exit 0)))
  (.seq
  (.block 1
   (.seq
   (.reg ⟨[], [], [(6, .v (.bin .neq (.fld (.idx (.s 0) (.s 4) 1) 0) (.fld (.idx (.s 1) (.s 4) 1) 0)))]⟩)
   (.cond (.s 6)
    (.seq
    (.reg ⟨[], [], [(2, .v (.c (.bool false)))]⟩)
    .ret)
    .skip)))
  (.reg ⟨[], [], [(4, .v (.bin .add (.s 4) (.c (.int .i64 (1)))))]⟩))))))
(.seq
(.reg ⟨[], [], [(2, .v (.c (.bool true)))]⟩)
.ret)))),
[(2, .v)]⟩
theorem c46 : compFn Try.prog fresh sig [.fz, .fz] [] Try.f46 = some p46 := by kernel_rfl
/-- slices.Equal[[]int,int] -/
def p47 : Fn := ⟨9, [0, 1, 4, 10, 13, 12, 14, 5, 24],
(.seq
(.reg ⟨[], [], [(2, .v (.c (.bool false)))]⟩)
(.seq
(.seq
(.reg ⟨[], [], [(3, .v (.bin .neq (.len (.s 0)) (.len (.s 1))))]⟩)
(.cond (.s 3)
 (.seq
 (.reg ⟨[], [], [(2, .v (.c (.bool false)))]⟩)
 .ret)
 .skip))
(.seq
(.seq
(.reg ⟨[], [], [(4, .v (.c (.int .i64 (0)))), (5, .v (.len (.s 0)))]⟩)
(.block 0
 (.loop [0, 1, 2, 3, 4, 5]
  (.seq
  (.reg ⟨[], [], [(6, .v (.bin .lss (.s 4) (.s 5)))]⟩)
  (.seq
  (.cond (.s 6)
   .skip
   (.exit 0))
  (.seq
  (.block 1
   (.seq
   (.reg ⟨[], [], [(7, .v (.s 4))]⟩)
   (.seq
   (.reg ⟨[], [], [(8, .v (.bin .neq (.fld (.idx (.s 0) (.s 7) 1) 0) (.fld (.idx (.s 1) (.s 7) 1) 0)))]⟩)
   (.cond (.s 8)
    (.seq
    (.reg ⟨[], [], [(2, .v (.c (.bool false)))]⟩)
    .ret)
    .skip))))
  (.reg ⟨[], [], [(4, .v (.bin .add (.s 4) (.c (.int .i64 (1)))))]⟩)))))))
(.seq
(.reg ⟨[], [], [(2, .v (.c (.bool true)))]⟩)
.ret)))),
[(2, .v)]⟩
theorem c47 : compFn Try.prog fresh sig [.fz, .fz] [] Try.f47 = some p47 := by kernel_rfl
/-- slices.EqualFunc[[]cromlech/api.Node,[]cromlech/api.Node,cromlech/api.Node,cromlech/api.Node] -/
def p48 : Fn := ⟨13, [0, 1, 2, 6, 14, 17, 16, 18, 8, 7, 15, 9, 30],
(.seq
(.reg ⟨[], [], [(3, .v (.c (.bool false)))]⟩)
(.seq
(.seq
(.reg ⟨[], [], [(4, .v (.bin .neq (.len (.s 0)) (.len (.s 1))))]⟩)
(.cond (.s 4)
 (.seq
 (.reg ⟨[], [], [(3, .v (.c (.bool false)))]⟩)
 .ret)
 .skip))
(.seq
(.seq
(.reg ⟨[], [], [(5, .v (.c (.int .i64 (0)))), (6, .v (.len (.s 0))), (10, .v (.s 0))]⟩)
(.block 0
 (.loop [0, 1, 2, 3, 4, 5, 6, 10]
  (.seq
  (.reg ⟨[], [], [(7, .v (.bin .lss (.s 5) (.s 6)))]⟩)
  (.seq
  (.cond (.s 7)
   .skip
   (.exit 0))
  (.seq
  (.block 1
   (.seq
   (.reg ⟨[], [], [(8, .m [(.fld (.flds (.idx (.s 10) (.s 5) 2) 0 2) 0), (.fld (.flds (.idx (.s 10) (.s 5) 2) 0 2) 1)]), (9, .v (.s 5))]⟩)
   (.seq
   (.reg ⟨[], [], [(11, .m [(.fld (.flds (.idx (.s 1) (.s 9) 2) 0 2) 0), (.fld (.flds (.idx (.s 1) (.s 9) 2) 0 2) 1)])]⟩)
   (.seq
   (.reg ⟨[.callm 13 [] (.e (.s 2)) [.fz, .fz] [(.mm 8 0 2), (.mm 11 0 2)]], [], [(12, .v (.un .not (.s 13)))]⟩)
   (.cond (.s 12)
    (.seq
    (.reg ⟨[], [], [(3, .v (.c (.bool false)))]⟩)
    .ret)
    .skip)))))
  (.reg ⟨[], [], [(5, .v (.bin .add (.s 5) (.c (.int .i64 (1)))))]⟩)))))))
(.seq
(.reg ⟨[], [], [(3, .v (.c (.bool true)))]⟩)
.ret)))),
[(3, .v)]⟩
theorem c48 : compFn Try.prog fresh sig [.fz, .fz, .fz] [] Try.f48 = some p48 := by kernel_rfl
/-- cromlech/canon.Alike$1 -/
def p49 : Fn := ⟨5, [0, 1, 2, 3, 4],
(.seq
(.reg ⟨[], [], [(2, .m [(.fld (.sz (.s 0) 2) 0), (.fld (.sz (.s 0) 2) 1)]), (3, .m [(.fld (.sz (.s 1) 2) 0), (.fld (.sz (.s 1) 2) 1)]), (4, .v (.c (.bool false)))]⟩)
(.seq
(.reg ⟨[.call 5 [] 47 false false [(.m 2 0), (.m 3 0)], .lt 6 [] (.s 5), .call 7 [(6, true)] 50 false false [(.m 2 1), (.m 3 1)]], [], [(4, .v (.ite (.s 6) (.s 7) (.c (.bool false))))]⟩)
.ret)),
[(4, .v)]⟩
theorem c49 : compFn Try.prog fresh sig [.fz, .fz] [] Try.f49 = some p49 := by kernel_rfl
/-- slices.Equal[[]uint64,uint64] -/
def p50 : Fn := ⟨9, [0, 1, 4, 10, 13, 12, 14, 5, 24],
(.seq
(.reg ⟨[], [], [(2, .v (.c (.bool false)))]⟩)
(.seq
(.seq
(.reg ⟨[], [], [(3, .v (.bin .neq (.len (.s 0)) (.len (.s 1))))]⟩)
(.cond (.s 3)
 (.seq
 (.reg ⟨[], [], [(2, .v (.c (.bool false)))]⟩)
 .ret)
 .skip))
(.seq
(.seq
(.reg ⟨[], [], [(4, .v (.c (.int .i64 (0)))), (5, .v (.len (.s 0)))]⟩)
(.block 0
 (.loop [0, 1, 2, 3, 4, 5]
  (.seq
  (.reg ⟨[], [], [(6, .v (.bin .lss (.s 4) (.s 5)))]⟩)
  (.seq
  (.cond (.s 6)
   .skip
   (.exit 0))
  (.seq
  (.block 1
   (.seq
   (.reg ⟨[], [], [(7, .v (.s 4))]⟩)
   (.seq
   (.reg ⟨[], [], [(8, .v (.bin .neq (.fld (.idx (.s 0) (.s 7) 1) 0) (.fld (.idx (.s 1) (.s 7) 1) 0)))]⟩)
   (.cond (.s 8)
    (.seq
    (.reg ⟨[], [], [(2, .v (.c (.bool false)))]⟩)
    .ret)
    .skip))))
  (.reg ⟨[], [], [(4, .v (.bin .add (.s 4) (.c (.int .i64 (1)))))]⟩)))))))
(.seq
(.reg ⟨[], [], [(2, .v (.c (.bool true)))]⟩)
.ret)))),
[(2, .v)]⟩
theorem c50 : compFn Try.prog fresh sig [.fz, .fz] [] Try.f50 = some p50 := by kernel_rfl
/-- cromlech/graph.Right$1 -/
def p52 : Fn := ⟨9, [0, 1, 3, 8, 7, 9, 5, 6, 20],
(.seq
(.reg ⟨[], [], [(2, .v (.c (.bool false)))]⟩)
(.seq
(.seq
(.reg ⟨[], [], [(3, .v (.c (.int .i64 (0)))), (4, .v (.len (.s 0))), (7, .v (.s 0))]⟩)
(.block 0
 (.loop [0, 1, 2, 3, 4, 7]
  (.seq
  (.reg ⟨[], [], [(5, .v (.bin .lss (.s 3) (.s 4)))]⟩)
  (.seq
  (.cond (.s 5)
   .skip
   (.exit 0))
  (.seq
  (.block 1
   (.seq
   (.reg ⟨[], [], [(6, .v (.fld (.idx (.s 7) (.s 3) 1) 0))]⟩)
   (.seq
   (.reg ⟨[.lt 9 [] (.bin .lss (.s 6) (.c (.int .i64 (-1))))], [([(9, false)], (.bin .geq (.s 6) (.len (.m 1 0))))], [(8, .v (.ite (.s 9) (.c (.bool true)) (.bin .geq (.s 6) (.len (.m 1 0)))))]⟩)
   (.cond (.s 8)
    (.seq
    (.reg ⟨[], [], [(2, .v (.c (.bool false)))]⟩)
    .ret)
    .skip))))
  (.reg ⟨[], [], [(3, .v (.bin .add (.s 3) (.c (.int .i64 (1)))))]⟩)))))))
(.seq
(.reg ⟨[], [], [(2, .v (.c (.bool true)))]⟩)
.ret))),
[(2, .v)]⟩
theorem c52 : compFn Try.prog fresh sig [.fz, (.mem [.fz, .fz])] [(1, (.mem [.fz, .fz]))] Try.f52 = some p52 := by kernel_rfl
/-- cromlech/canon.moved -/
def p58 : Fn := ⟨10, [0, 1, 4, 5, 10, 9, 11, 7, 8, 15],
(.seq
(.reg ⟨[], [], [(2, .v (.c (.sl [])))]⟩)
(.seq
(.reg ⟨[], [], [(3, .v (.c (.sl [])))]⟩)
(.seq
(.seq
(.reg ⟨[], [], [(4, .v (.c (.int .i64 (0)))), (5, .v (.len (.s 0))), (8, .v (.s 0))]⟩)
(.block 0
 (.loop [0, 1, 2, 3, 4, 5, 8]
  (.seq
  (.reg ⟨[], [], [(6, .v (.bin .lss (.s 4) (.s 5)))]⟩)
  (.seq
  (.cond (.s 6)
   .skip
   (.exit 0))
  (.seq
  (.block 1
   (.seq
   (.reg ⟨[], [], [(7, .v (.fld (.idx (.s 8) (.s 4) 1) 0))]⟩)
   (.seq
   (.seq
   (.reg ⟨[], [], [(9, .v (.bin .geq (.s 7) (.c (.int .i64 (0)))))]⟩)
   (.cond (.s 9)
    (.reg ⟨[], [], [(7, .v (.lk (.i .i64) (.s 1) (.s 7) (.int .i64 (0)) false))]⟩)
    .skip))
   (.reg ⟨[], [], [(3, .v (.app (.s 3) (.lit [(.one (.s 7))]) 1))]⟩))))
  (.reg ⟨[], [], [(4, .v (.bin .add (.s 4) (.c (.int .i64 (1)))))]⟩)))))))
(.seq
(.reg ⟨[], [], [(2, .v (.s 3)), (3, .no)]⟩)
.ret)))),
[(2, .v)]⟩
theorem c58 : compFn Try.prog fresh sig [.fz, .fz] [(4, (.own 3))] Try.f58 = some p58 := by kernel_rfl
/-- cromlech/canon.order$1 -/
def p60 : Fn := ⟨11, [0, 1, 2, 10, 9, 11, 5, 8, 6, 7, 25],
(.seq
(.reg ⟨[], [], [(3, .v (.c (.int .i64 (0)))), (4, .v (.len (.s 0))), (7, .v (.s 0))]⟩)
(.block 0
 (.loop [0, 1, 2, 3, 4, 7]
  (.seq
  (.reg ⟨[], [], [(5, .v (.bin .lss (.s 3) (.s 4)))]⟩)
  (.seq
  (.cond (.s 5)
   .skip
   (.exit 0))
  (.seq
  (.block 1
   (.seq
   (.reg ⟨[], [], [(6, .v (.fld (.idx (.s 7) (.s 3) 1) 0))]⟩)
   (.seq
   (.reg ⟨[], [], [(8, .v (.fl (.ext (.lk (.i .i64) (.m 1 0) (.s 6) (.int .i64 (0)) true) 0))), (9, .v (.fl (.ext (.lk (.i .i64) (.m 1 0) (.s 6) (.int .i64 (0)) true) 1)))]⟩)
   (.seq
   (.reg ⟨[.lt 11 [] (.bin .geq (.s 6) (.c (.int .i64 (0))))], [([(11, true)], (.un .not (.s 9)))], [(10, .v (.ite (.s 11) (.un .not (.s 9)) (.c (.bool false))))]⟩)
   (.cond (.s 10)
    (.seq
    (.reg ⟨[], [], [(1, .m [(.mput (.i .i64) (.m 1 0) (.s 6) (.len (.m 2 0)))])]⟩)
    (.reg ⟨[], [], [(2, .m [(.app (.m 2 0) (.lit [(.one (.s 6))]) 1)])]⟩))
    .skip)))))
  (.reg ⟨[], [], [(3, .v (.bin .add (.s 3) (.c (.int .i64 (1)))))]⟩))))))),
[]⟩
theorem c60 : compFn Try.prog fresh sig [.fz, (.mem [(.own 72)]), (.mem [(.own 3)])] [(1, (.mem [(.own 72)])), (2, (.mem [(.own 3)]))] Try.f60 = some p60 := by kernel_rfl
end Vm
