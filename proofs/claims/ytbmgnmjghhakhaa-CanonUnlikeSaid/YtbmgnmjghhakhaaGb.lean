/-
  MADE BY A PROGRAM: programs that the compiler makes of functions, and that it makes them.
-/
import Derived.Test.YtbmgnmjghhakhaaGs
namespace Vm
open Go
open Go.Proofs
set_option maxRecDepth 100000
/-- cromlech/cromlechlaw09.CanonOrder -/
def p5 : Fn := ⟨19, [0, 1, 4, 5, 6, 7, 8, 9, 27, 54, 10, 11, 12, 69, 13, 86, 93, 112, 121],
(.seq
(.reg ⟨[], [], [(2, .v (.c (.bool false)))]⟩)
(.seq
(.reg ⟨[.call 19 [] 15 false false []], [], [(3, .v (.s 19))]⟩)
(.seq
(.reg ⟨[.call 20 [] 16 false false [(.s 0), (.s 1)]], [], [(4, .m [(.fld (.sz (.s 20) 2) 0), (.fld (.sz (.s 20) 2) 1)])]⟩)
(.seq
(.reg ⟨[.call 21 [] 23 false false [(.mm 4 0 2)]], [], [(5, .v (.s 21))]⟩)
(.seq
(.reg ⟨[], [], [(6, .v (.mk (.int .i64 (0)) (.len (.m 4 0))))]⟩)
(.seq
(.seq
(.reg ⟨[], [], [(7, .v (.c (.int .i64 (0))))]⟩)
(.block 0
 (.loop [0, 1, 2, 3, 4, 5, 6, 7]
  (.seq
  (.seq
  (.reg ⟨[], [], [(8, .v (.bin .lss (.s 7) (.len (.s 5))))]⟩)
  (.cond (.s 8)
   .skip
   (.exit 0)))
  (.seq
  (.block 1
   (.seq
   (.seq
   (.reg ⟨[.lt 22 [] (.bin .lss (.fld (.idx (.s 5) (.s 7) 1) 0) (.c (.int .i64 (0)))), .lt 23 [] (.ite (.s 22) (.c (.bool true)) (.bin .geq (.fld (.idx (.s 5) (.s 7) 1) 0) (.len (.m 4 0))))], [([(22, false)], (.bin .geq (.fld (.idx (.s 5) (.s 7) 1) 0) (.len (.m 4 0)))), ([(23, false)], (.bin .gtr (.fld (.idx (.s 6) (.fld (.idx (.s 5) (.s 7) 1) 0) 1) 0) (.c (.int .i64 (0)))))], [(9, .v (.ite (.s 23) (.c (.bool true)) (.bin .gtr (.fld (.idx (.s 6) (.fld (.idx (.s 5) (.s 7) 1) 0) 1) 0) (.c (.int .i64 (0))))))]⟩)
   (.cond (.s 9)
    (.seq
    (.reg ⟨[], [], [(2, .v (.c (.bool false)))]⟩)
    .ret)
    .skip))
   (.reg ⟨[], [([], (.idx (.s 6) (.fld (.idx (.s 5) (.s 7) 1) 0) 1))], [(6, .v (.upd (.s 6) (.fld (.idx (.s 5) (.s 7) 1) 0) 0 (.bin .add (.s 7) (.c (.int .i64 (1))))))]⟩)))
  (.reg ⟨[], [], [(7, .v (.bin .add (.s 7) (.c (.int .i64 (1)))))]⟩))))))
(.seq
(.reg ⟨[], [], [(10, .v (.c (.int .i64 (1))))]⟩)
(.seq
(.reg ⟨[], [], [(11, .v (.app (.c (.sl [])) (.m 4 1) 1))]⟩)
(.seq
(.seq
(.reg ⟨[], [], [(12, .v (.c (.int .i64 (0))))]⟩)
(.block 2
 (.loop [0, 1, 2, 3, 4, 5, 6, 7, 8, 10, 11, 12]
  (.seq
  (.seq
  (.reg ⟨[], [], [(13, .v (.bin .lss (.s 12) (.len (.s 5))))]⟩)
  (.cond (.s 13)
   .skip
   (.exit 2)))
  (.seq
  (.block 3
   (.reg ⟨[], [], [(11, .v (.app (.s 11) (.fld (.idx (.m 4 0) (.fld (.idx (.s 5) (.s 12) 1) 0) 2) 0) 1))]⟩))
  (.reg ⟨[], [], [(12, .v (.bin .add (.s 12) (.c (.int .i64 (1)))))]⟩))))))
(.seq
(.seq
(.reg ⟨[], [], [(14, .v (.c (.int .i64 (0))))]⟩)
(.block 4
 (.loop [0, 1, 2, 3, 4, 5, 6, 7, 8, 10, 11, 12, 13, 14]
  (.seq
  (.seq
  (.reg ⟨[], [], [(15, .v (.bin .lss (.s 14) (.len (.s 11))))]⟩)
  (.cond (.s 15)
   .skip
   (.exit 4)))
  (.seq
  (.block 5
   (.seq
   (.seq
   (.reg ⟨[], [], [(16, .v (.bin .lss (.fld (.idx (.s 11) (.s 14) 1) 0) (.c (.int .i64 (0)))))]⟩)
   (.cond (.s 16)
    (.exit 5)
    .skip))
   (.seq
   (.seq
   (.reg ⟨[.lt 24 [] (.bin .eql (.fld (.idx (.s 6) (.fld (.idx (.s 11) (.s 14) 1) 0) 1) 0) (.c (.int .i64 (0))))], [([(24, false)], (.bin .gtr (.fld (.idx (.s 6) (.fld (.idx (.s 11) (.s 14) 1) 0) 1) 0) (.s 10)))], [(17, .v (.ite (.s 24) (.c (.bool true)) (.bin .gtr (.fld (.idx (.s 6) (.fld (.idx (.s 11) (.s 14) 1) 0) 1) 0) (.s 10))))]⟩)
   (.cond (.s 17)
    (.seq
    (.reg ⟨[], [], [(2, .v (.c (.bool false)))]⟩)
    .ret)
    .skip))
   (.seq
   (.reg ⟨[], [], [(18, .v (.bin .eql (.fld (.idx (.s 6) (.fld (.idx (.s 11) (.s 14) 1) 0) 1) 0) (.s 10)))]⟩)
   (.cond (.s 18)
    (.reg ⟨[], [], [(10, .v (.bin .add (.s 10) (.c (.int .i64 (1)))))]⟩)
    .skip)))))
  (.reg ⟨[], [], [(14, .v (.bin .add (.s 14) (.c (.int .i64 (1)))))]⟩))))))
(.seq
(.reg ⟨[.lt 25 [] (.s 3)], [([(25, true)], (.bin .eql (.s 10) (.bin .add (.len (.s 5)) (.c (.int .i64 (1))))))], [(2, .v (.ite (.s 25) (.bin .eql (.s 10) (.bin .add (.len (.s 5)) (.c (.int .i64 (1))))) (.c (.bool false))))]⟩)
.ret))))))))))),
[(2, .v)]⟩
theorem c5 : compFn Try.prog fresh sig [.fz, .fz] [] Try.f5 = some p5 := by kernel_rfl
end Vm
