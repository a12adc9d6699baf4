/-
  MADE BY A PROGRAM: programs that the compiler makes of functions, and that it makes them.
-/
import Derived.Test.YtfplljcicihneaaGs
namespace Vm
open Go
open Go.Proofs
set_option maxRecDepth 100000
/-- cromlech/cromlechlaw08.Graph -/
def p84 : Fn := ⟨13, [0, 1, 4, 5, 6, 7, 16, 8, 9, 30, 10, 78, 97],
(.seq
(.reg ⟨[], [], [(2, .m [(.c (.sl [])), (.c (.sl []))])]⟩)
(.seq
(.reg ⟨[], [], [(3, .v (.mn (.len (.s 0)) (.c (.int .i64 (10)))))]⟩)
(.seq
(.reg ⟨[], [], [(4, .m [(.c (.sl [])), (.c (.sl []))])]⟩)
(.seq
(.seq
(.reg ⟨[], [], [(5, .v (.c (.int .i64 (0))))]⟩)
(.block 0
 (.loop [0, 1, 2, 3, 4, 5]
  (.seq
  (.seq
  (.reg ⟨[], [], [(6, .v (.bin .lss (.s 5) (.s 3)))]⟩)
  (.cond (.s 6)
   .skip
   (.exit 0)))
  (.seq
  (.block 1
   (.seq
   (.reg ⟨[], [], [(7, .m [(.c (.sl [])), (.c (.sl []))])]⟩)
   (.seq
   (.seq
   (.reg ⟨[], [], [(8, .v (.c (.int .i64 (0))))]⟩)
   (.block 2
    (.loop [0, 1, 2, 3, 4, 5, 6, 7, 8]
     (.seq
     (.seq
     (.reg ⟨[.lt 13 [] (.bin .lss (.s 8) (.len (.fld (.idx (.s 0) (.s 5) 2) 0)))], [([(13, true)], (.bin .lss (.s 8) (.c (.int .i64 (4)))))], [(9, .v (.ite (.s 13) (.bin .lss (.s 8) (.c (.int .i64 (4)))) (.c (.bool false))))]⟩)
     (.cond (.s 9)
      .skip
      (.exit 2)))
     (.seq
     (.block 3
      (.reg ⟨[.call 14 [] (.id 100) false false [(.fld (.idx (.fld (.idx (.s 0) (.s 5) 2) 0) (.s 8) 1) 0), (.bin .add (.s 3) (.c (.int .i64 (1))))]], [], [(7, .m [(.app (.m 7 0) (.lit [(.bin .sub (.s 14) (.c (.int .i64 (1))))]) 1), (.m 7 1)])]⟩))
     (.reg ⟨[], [], [(8, .v (.bin .add (.s 8) (.c (.int .i64 (1)))))]⟩))))))
   (.seq
   (.reg ⟨[], [], [(7, .m [(.m 7 0), (.app (.c (.sl [])) (.slc (.fld (.idx (.s 0) (.s 5) 2) 1) (.c (.int .i64 (0))) (.mn (.len (.fld (.idx (.s 0) (.s 5) 2) 1)) (.c (.int .i64 (4)))) 1) 1)])]⟩)
   (.reg ⟨[], [], [(4, .m [(.app (.m 4 0) (.lit [(.mm 7 0 2)]) 2), (.m 4 1)])]⟩)))))
  (.reg ⟨[], [], [(5, .v (.bin .add (.s 5) (.c (.int .i64 (1)))))]⟩))))))
(.seq
(.seq
(.reg ⟨[], [], [(10, .v (.c (.int .i64 (0))))]⟩)
(.block 4
 (.loop [0, 1, 2, 3, 4, 5, 6, 10]
  (.seq
  (.seq
  (.reg ⟨[.lt 15 [] (.bin .lss (.s 10) (.len (.s 1)))], [([(15, true)], (.bin .lss (.s 10) (.c (.int .i64 (5)))))], [(11, .v (.ite (.s 15) (.bin .lss (.s 10) (.c (.int .i64 (5)))) (.c (.bool false))))]⟩)
  (.cond (.s 11)
   .skip
   (.exit 4)))
  (.seq
  (.block 5
   (.reg ⟨[.call 16 [] (.id 100) false false [(.fld (.idx (.s 1) (.s 10) 1) 0), (.bin .add (.s 3) (.c (.int .i64 (1))))]], [], [(4, .m [(.m 4 0), (.app (.m 4 1) (.lit [(.bin .sub (.s 16) (.c (.int .i64 (1))))]) 1)])]⟩))
  (.reg ⟨[], [], [(10, .v (.bin .add (.s 10) (.c (.int .i64 (1)))))]⟩))))))
(.seq
(.seq
(.reg ⟨[], [], [(12, .v (.bin .eql (.len (.m 4 1)) (.c (.int .i64 (0)))))]⟩)
(.cond (.s 12)
 (.reg ⟨[], [], [(4, .m [(.m 4 0), (.app (.m 4 1) (.lit [(.bin .sub (.s 3) (.c (.int .i64 (1))))]) 1)])]⟩)
 .skip))
(.seq
(.reg ⟨[], [], [(2, .m [(.fld (.mm 4 0 2) 0), (.fld (.mm 4 0 2) 1)])]⟩)
.ret))))))),
[(2, (.ag 2))]⟩
theorem c84 : compFn Try.prog fresh sig [.fz, .fz] [] Try.f84 = some p84 := by kernel_rfl
/-- cromlech/cromlechlaw11.class -/
def p85 : Fn := ⟨10, [0, 1, 2, 3, 6, 7, 8, 14, 9, 31],
(.seq
(.reg ⟨[], [], [(3, .m [(.fld (.sz (.s 0) 7) 0), (.fld (.sz (.s 0) 7) 1), (.fld (.sz (.s 0) 7) 2), (.fld (.sz (.s 0) 7) 3), (.fld (.sz (.s 0) 7) 4), (.fld (.sz (.s 0) 7) 5), (.fld (.sz (.s 0) 7) 6)]), (4, .v (.c (.int .i64 (0)))), (5, .v (.c (.bool false)))]⟩)
(.seq
(.reg ⟨[], [], [(6, .v (.s 1))]⟩)
(.seq
(.seq
(.reg ⟨[], [], [(7, .v (.bin .gtr (.len (.m 3 2)) (.c (.int .i64 (0)))))]⟩)
(.cond (.s 7)
 (.reg ⟨[], [], [(6, .v (.fld (.idx (.m 3 2) (.bin .rem (.s 1) (.len (.m 3 2))) 1) 0))]⟩)
 .skip))
(.seq
(.reg ⟨[.call 10 [] (.id 29) false false [(.s 6), (.c (.int .i64 (3)))]], [], [(8, .v (.s 10))]⟩)
(.seq
(.seq
(.reg ⟨[.lt 11 [] (.bin .eql (.s 8) (.c (.int .i64 (2))))], [([(11, true)], (.un .not (.s 2)))], [(9, .v (.ite (.s 11) (.un .not (.s 2)) (.c (.bool false))))]⟩)
(.cond (.s 9)
 (.reg ⟨[], [], [(8, .v (.c (.int .i64 (1))))]⟩)
 .skip))
(.seq
(.reg ⟨[.call 12 [] (.id 29) false false [(.bin .quo (.s 6) (.c (.int .i64 (3)))), (.c (.int .i64 (2)))]], [], [(4, .v (.s 8)), (5, .v (.bin .eql (.s 12) (.c (.int .i64 (1)))))]⟩)
.ret)))))),
[(4, .v), (5, .v)]⟩
theorem c85 : compFn Try.prog fresh sig [.fz, .fz, .fz] [] Try.f85 = some p85 := by kernel_rfl
/-- cromlech/cromlechlaw11.lay -/
def p86 : Fn := ⟨15, [0, 1, 2, 3, 4, 5, 6, 8, 9, 10, 11, 12, 44, 13, 76],
(.seq
(.reg ⟨[], [], [(4, .m [(.fld (.sz (.s 0) 14) 0), (.fld (.sz (.s 0) 14) 1), (.fld (.sz (.s 0) 14) 2), (.fld (.sz (.s 0) 14) 3), (.fld (.sz (.s 0) 14) 4), (.fld (.sz (.s 0) 14) 5), (.fld (.sz (.s 0) 14) 6), (.fld (.sz (.s 0) 14) 7), (.fld (.sz (.s 0) 14) 8), (.fld (.sz (.s 0) 14) 9), (.fld (.sz (.s 0) 14) 10), (.fld (.sz (.s 0) 14) 11), (.fld (.sz (.s 0) 14) 12), (.fld (.sz (.s 0) 14) 13)]), (5, .m [(.fld (.sz (.s 1) 2) 0), (.fld (.sz (.s 1) 2) 1)]), (6, .m [(.fld (.sz (.s 2) 2) 0), (.fld (.sz (.s 2) 2) 1)]), (7, .m [(.c (.int .u64 (0))), (.c (.int .i64 (0))), (.c (.int .i64 (0))), (.c (.bool false)), (.c (.int .i64 (0))), (.c (.sl [])), (.c (.sl [])), (.c (.sl [])), (.c (.sl [])), (.c (.sl [])), (.c (.sl [])), (.c (.sl [])), (.c (.sl [])), (.c (.sl []))])]⟩)
(.seq
(.reg ⟨[.call 15 [] (.id 28) false false [(.mm 4 0 10), (.m 5 0)]], [], [(8, .v (.app (.c (.sl [])) (.s 15) 1))]⟩)
(.seq
(.reg ⟨[.call 16 [] (.id 92) false false [(.ag [(.bin .add (.len (.m 6 0)) (.len (.m 6 1))), (.len (.m 6 0))])]], [], [(9, .v (.ext (.s 16) 0)), (10, .v (.ext (.s 16) 1))]⟩)
(.seq
(.reg ⟨[], [([], (.idx (.s 8) (.m 5 1) 1))], [(8, .v (.upd (.s 8) (.m 5 1) 0 (.one (.s 9))))]⟩)
(.seq
(.seq
(.reg ⟨[], [], [(11, .v (.c (.int .i64 (0))))]⟩)
(.block 0
 (.loop [0, 1, 2, 3, 4, 5, 6, 7, 8, 9, 10, 11]
  (.seq
  (.seq
  (.reg ⟨[], [], [(12, .v (.bin .lss (.s 11) (.len (.m 6 0))))]⟩)
  (.cond (.s 12)
   .skip
   (.exit 0)))
  (.seq
  (.block 1
   (.reg ⟨[.call 17 [] (.id 101) false false [(.mm 4 0 14), (.ag [(.m 5 0), (.bin .add (.bin .add (.m 5 1) (.c (.int .i64 (1)))) (.s 11))]), (.fld (.idx (.m 6 0) (.s 11) 1) 0), (.bin .add (.s 3) (.s 11))]], [([], (.idx (.s 8) (.bin .add (.bin .add (.m 5 1) (.c (.int .i64 (1)))) (.s 11)) 1))], [(8, .v (.upd (.s 8) (.bin .add (.bin .add (.m 5 1) (.c (.int .i64 (1)))) (.s 11)) 0 (.one (.s 17))))]⟩))
  (.reg ⟨[], [], [(11, .v (.bin .add (.s 11) (.c (.int .i64 (1)))))]⟩))))))
(.seq
(.seq
(.reg ⟨[], [], [(13, .v (.c (.int .i64 (0))))]⟩)
(.block 2
 (.loop [0, 1, 2, 3, 4, 5, 6, 7, 8, 9, 10, 11, 12, 13]
  (.seq
  (.seq
  (.reg ⟨[], [], [(14, .v (.bin .lss (.s 13) (.len (.m 6 1))))]⟩)
  (.cond (.s 14)
   .skip
   (.exit 2)))
  (.seq
  (.block 3
   (.reg ⟨[], [([], (.idx (.s 8) (.bin .add (.bin .add (.bin .add (.m 5 1) (.c (.int .i64 (1)))) (.len (.m 6 0))) (.s 13)) 1))], [(8, .v (.upd (.s 8) (.bin .add (.bin .add (.bin .add (.m 5 1) (.c (.int .i64 (1)))) (.len (.m 6 0))) (.s 13)) 0 (.fld (.idx (.m 6 1) (.s 13) 1) 0)))]⟩))
  (.reg ⟨[], [], [(13, .v (.bin .add (.s 13) (.c (.int .i64 (1)))))]⟩))))))
(.seq
(.reg ⟨[.call 18 [] (.id 27) false false [(.mm 4 0 10), (.m 5 0), (.s 8)]], [], [(4, .m [(.fld (.sz (.s 18) 10) 0), (.fld (.sz (.s 18) 10) 1), (.fld (.sz (.s 18) 10) 2), (.fld (.sz (.s 18) 10) 3), (.fld (.sz (.s 18) 10) 4), (.fld (.sz (.s 18) 10) 5), (.fld (.sz (.s 18) 10) 6), (.fld (.sz (.s 18) 10) 7), (.fld (.sz (.s 18) 10) 8), (.fld (.sz (.s 18) 10) 9), (.m 4 10), (.m 4 11), (.m 4 12), (.m 4 13)])]⟩)
(.seq
(.reg ⟨[], [], [(7, .m [(.fld (.mm 4 0 14) 0), (.fld (.mm 4 0 14) 1), (.fld (.mm 4 0 14) 2), (.fld (.mm 4 0 14) 3), (.fld (.mm 4 0 14) 4), (.fld (.mm 4 0 14) 5), (.fld (.mm 4 0 14) 6), (.fld (.mm 4 0 14) 7), (.fld (.mm 4 0 14) 8), (.fld (.mm 4 0 14) 9), (.fld (.mm 4 0 14) 10), (.fld (.mm 4 0 14) 11), (.fld (.mm 4 0 14) 12), (.fld (.mm 4 0 14) 13)])]⟩)
.ret)))))))),
[(7, (.ag 14))]⟩
theorem c86 : compFn Try.prog fresh sig [.fz, .fz, .fz, .fz] [] Try.f86 = some p86 := by kernel_rfl
/-- cromlech/cromlechlaw11.ref -/
def p87 : Fn := ⟨10, [0, 1, 2, 3, 4, 11, 5, 6, 7, 8],
(.seq
(.reg ⟨[], [], [(2, .m [(.fld (.sz (.s 0) 14) 0), (.fld (.sz (.s 0) 14) 1), (.fld (.sz (.s 0) 14) 2), (.fld (.sz (.s 0) 14) 3), (.fld (.sz (.s 0) 14) 4), (.fld (.sz (.s 0) 14) 5), (.fld (.sz (.s 0) 14) 6), (.fld (.sz (.s 0) 14) 7), (.fld (.sz (.s 0) 14) 8), (.fld (.sz (.s 0) 14) 9), (.fld (.sz (.s 0) 14) 10), (.fld (.sz (.s 0) 14) 11), (.fld (.sz (.s 0) 14) 12), (.fld (.sz (.s 0) 14) 13)]), (3, .m [(.fld (.sz (.s 1) 2) 0), (.fld (.sz (.s 1) 2) 1)]), (4, .v (.c (.int .u64 (0))))]⟩)
(.seq
(.seq
(.reg ⟨[], [], [(5, .v (.bin .eql (.m 3 0) (.c (.int .i64 (0)))))]⟩)
(.cond (.s 5)
 (.seq
 (.reg ⟨[], [], [(4, .v (.c (.int .u64 (0))))]⟩)
 .ret)
 .skip))
(.seq
(.reg ⟨[.call 10 [] (.id 38) false false [(.mm 2 0 10)], .call 11 [] (.id 37) false false [(.s 10), (.mm 3 0 2)]], [], [(6, .v (.ext (.s 11) 0)), (7, .v (.ext (.s 11) 1))]⟩)
(.seq
(.reg ⟨[.call 12 [] (.id 83) false false [(.s 6)]], [], [(8, .v (.ext (.s 12) 0)), (9, .v (.ext (.s 12) 1))]⟩)
(.seq
(.reg ⟨[], [], [(4, .v (.s 8))]⟩)
.ret))))),
[(4, .v)]⟩
theorem c87 : compFn Try.prog fresh sig [.fz, .fz] [] Try.f87 = some p87 := by kernel_rfl
/-- cromlech/cromlechlaw11.slot -/
def p101 : Fn := ⟨10, [0, 1, 2, 3, 4, 5, 8, 10, 13, 54],
(.seq
(.reg ⟨[], [], [(4, .m [(.fld (.sz (.s 0) 14) 0), (.fld (.sz (.s 0) 14) 1), (.fld (.sz (.s 0) 14) 2), (.fld (.sz (.s 0) 14) 3), (.fld (.sz (.s 0) 14) 4), (.fld (.sz (.s 0) 14) 5), (.fld (.sz (.s 0) 14) 6), (.fld (.sz (.s 0) 14) 7), (.fld (.sz (.s 0) 14) 8), (.fld (.sz (.s 0) 14) 9), (.fld (.sz (.s 0) 14) 10), (.fld (.sz (.s 0) 14) 11), (.fld (.sz (.s 0) 14) 12), (.fld (.sz (.s 0) 14) 13)]), (5, .m [(.fld (.sz (.s 1) 2) 0), (.fld (.sz (.s 1) 2) 1)]), (6, .v (.c (.int .u64 (0))))]⟩)
(.seq
(.seq
(.reg ⟨[], [], [(7, .v (.bin .lss (.s 2) (.c (.int .i64 (0)))))]⟩)
(.cond (.s 7)
 (.seq
 (.reg ⟨[], [], [(6, .v (.c (.int .u64 (0))))]⟩)
 .ret)
 .skip))
(.seq
(.seq
(.reg ⟨[], [], [(8, .v (.bin .gtr (.m 5 0) (.c (.int .i64 (2)))))]⟩)
(.cond (.s 8)
 (.seq
 (.reg ⟨[.call 10 [] (.id 87) false false [(.mm 4 0 14), (.flds (.idx (.m 4 13) (.s 2) 2) 0 2)]], [], [(6, .v (.s 10))]⟩)
 .ret)
 .skip))
(.seq
(.seq
(.reg ⟨[.lt 11 [] (.bin .eql (.m 5 0) (.c (.int .i64 (1)))), .lt 12 [] (.ite (.s 11) (.bin .geq (.m 5 1) (.m 4 4)) (.c (.bool false))), .lt 13 [(12, true)] (.bin .eql (.fld (.idx (.m 4 12) (.s 2) 2) 0) (.c (.int .i64 (0)))), .lt 14 [(12, true), (13, false)] (.bin .gtr (.fld (.idx (.m 4 13) (.s 2) 2) 0) (.c (.int .i64 (0))))], [([(11, true)], (.bin .geq (.m 5 1) (.m 4 4))), ([(12, true), (13, false), (14, true)], (.bin .eql (.bin .rem (.s 3) (.c (.int .i64 (2)))) (.c (.int .i64 (0))))), ([(12, true), (13, false)], (.ite (.s 14) (.bin .eql (.bin .rem (.s 3) (.c (.int .i64 (2)))) (.c (.int .i64 (0)))) (.c (.bool false)))), ([(12, true)], (.ite (.s 13) (.c (.bool true)) (.ite (.s 14) (.bin .eql (.bin .rem (.s 3) (.c (.int .i64 (2)))) (.c (.int .i64 (0)))) (.c (.bool false)))))], [(9, .v (.ite (.s 12) (.ite (.s 13) (.c (.bool true)) (.ite (.s 14) (.bin .eql (.bin .rem (.s 3) (.c (.int .i64 (2)))) (.c (.int .i64 (0)))) (.c (.bool false)))) (.c (.bool false))))]⟩)
(.cond (.s 9)
 (.seq
 (.reg ⟨[.call 15 [] (.id 87) false false [(.mm 4 0 14), (.flds (.idx (.m 4 13) (.s 2) 2) 0 2)]], [], [(6, .v (.s 15))]⟩)
 .ret)
 .skip))
(.seq
(.reg ⟨[.call 16 [] (.id 87) false false [(.mm 4 0 14), (.flds (.idx (.m 4 12) (.s 2) 2) 0 2)]], [], [(6, .v (.s 16))]⟩)
.ret))))),
[(6, .v)]⟩
theorem c101 : compFn Try.prog fresh sig [.fz, .fz, .fz, .fz] [] Try.f101 = some p101 := by kernel_rfl
end Vm
