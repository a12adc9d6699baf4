/-
  MADE BY A PROGRAM: programs that the compiler makes of functions, and that it makes them.
-/
import Derived.Test.YtfplljcicihneaaGs
namespace Vm
open Go
open Go.Proofs
set_option maxRecDepth 100000
/-- cromlech/cromlechref10.Same -/
def p22 : Fn := ⟨10, [0, 1, 2, 3, 4, 39, 5, 41, 6, 52],
(.seq
(.reg ⟨[], [], [(2, .m [(.fld (.sz (.s 0) 10) 0), (.fld (.sz (.s 0) 10) 1), (.fld (.sz (.s 0) 10) 2), (.fld (.sz (.s 0) 10) 3), (.fld (.sz (.s 0) 10) 4), (.fld (.sz (.s 0) 10) 5), (.fld (.sz (.s 0) 10) 6), (.fld (.sz (.s 0) 10) 7), (.fld (.sz (.s 0) 10) 8), (.fld (.sz (.s 0) 10) 9)]), (3, .m [(.fld (.sz (.s 1) 10) 0), (.fld (.sz (.s 1) 10) 1), (.fld (.sz (.s 1) 10) 2), (.fld (.sz (.s 1) 10) 3), (.fld (.sz (.s 1) 10) 4), (.fld (.sz (.s 1) 10) 5), (.fld (.sz (.s 1) 10) 6), (.fld (.sz (.s 1) 10) 7), (.fld (.sz (.s 1) 10) 8), (.fld (.sz (.s 1) 10) 9)]), (4, .v (.c (.bool false)))]⟩)
(.seq
(.seq
(.reg ⟨[.lt 10 [] (.bin .neq (.m 2 0) (.m 3 0)), .lt 11 [] (.ite (.s 10) (.c (.bool true)) (.bin .neq (.m 2 1) (.m 3 1))), .lt 12 [] (.ite (.s 11) (.c (.bool true)) (.bin .neq (.m 2 2) (.m 3 2))), .lt 13 [] (.ite (.s 12) (.c (.bool true)) (.eqv true (.m 2 3) (.m 3 3)))], [([(10, false)], (.bin .neq (.m 2 1) (.m 3 1))), ([(11, false)], (.bin .neq (.m 2 2) (.m 3 2))), ([(12, false)], (.eqv true (.m 2 3) (.m 3 3))), ([(13, false)], (.bin .neq (.m 2 4) (.m 3 4)))], [(5, .v (.ite (.s 13) (.c (.bool true)) (.bin .neq (.m 2 4) (.m 3 4))))]⟩)
(.cond (.s 5)
 (.seq
 (.reg ⟨[], [], [(4, .v (.c (.bool false)))]⟩)
 .ret)
 .skip))
(.seq
(.seq
(.reg ⟨[], [], [(6, .v (.c (.int .i64 (1))))]⟩)
(.block 0
 (.loop [0, 1, 2, 3, 4, 5, 6]
  (.seq
  (.seq
  (.reg ⟨[], [], [(7, .v (.bin .leq (.s 6) (.c (.int .i64 (4)))))]⟩)
  (.cond (.s 7)
   .skip
   (.exit 0)))
  (.seq
  (.block 1
   (.seq
   (.reg ⟨[.call 14 [] (.id 28) false false [(.mm 2 0 10), (.s 6)], .call 15 [] (.id 28) false false [(.mm 3 0 10), (.s 6)], .call 16 [] (.id 42) false false [(.s 14), (.s 15)]], [], [(8, .v (.s 16))]⟩)
   (.seq
   (.reg ⟨[], [], [(9, .v (.un .not (.s 8)))]⟩)
   (.cond (.s 9)
    (.seq
    (.reg ⟨[], [], [(4, .v (.c (.bool false)))]⟩)
    .ret)
    .skip))))
  (.reg ⟨[], [], [(6, .v (.bin .add (.s 6) (.c (.int .i64 (1)))))]⟩))))))
(.seq
(.reg ⟨[.call 17 [] (.id 42) false false [(.m 2 9), (.m 3 9)]], [], [(4, .v (.s 17))]⟩)
.ret)))),
[(4, .v)]⟩
theorem c22 : compFn Try.prog fresh sig [.fz, .fz] [] Try.f22 = some p22 := by kernel_rfl
/-- cromlech/cromlechlaw13.pick -/
def p25 : Fn := ⟨4, [0, 1, 4, 6],
(.seq
(.reg ⟨[], [], [(2, .v (.c (.int .i64 (0))))]⟩)
(.seq
(.seq
(.reg ⟨[], [], [(3, .v (.bin .lss (.s 0) (.c (.int .i64 (0)))))]⟩)
(.cond (.s 3)
 (.reg ⟨[], [], [(0, .v (.un .neg (.bin .add (.s 0) (.c (.int .i64 (1))))))]⟩)
 .skip))
(.seq
(.reg ⟨[], [], [(2, .v (.bin .rem (.s 0) (.s 1)))]⟩)
.ret))),
[(2, .v)]⟩
theorem c25 : compFn Try.prog fresh sig [.fz, .fz] [] Try.f25 = some p25 := by kernel_rfl
/-- cromlech/cromlechref10.With -/
def p27 : Fn := ⟨9, [0, 1, 2, 3, 6, 10, 7, 14, 18],
(.seq
(.reg ⟨[], [], [(3, .m [(.fld (.sz (.s 0) 10) 0), (.fld (.sz (.s 0) 10) 1), (.fld (.sz (.s 0) 10) 2), (.fld (.sz (.s 0) 10) 3), (.fld (.sz (.s 0) 10) 4), (.fld (.sz (.s 0) 10) 5), (.fld (.sz (.s 0) 10) 6), (.fld (.sz (.s 0) 10) 7), (.fld (.sz (.s 0) 10) 8), (.fld (.sz (.s 0) 10) 9)]), (4, .m [(.c (.int .u64 (0))), (.c (.int .i64 (0))), (.c (.int .i64 (0))), (.c (.bool false)), (.c (.int .i64 (0))), (.c (.sl [])), (.c (.sl [])), (.c (.sl [])), (.c (.sl [])), (.c (.sl []))])]⟩)
(.seq
(.seq
(.reg ⟨[], [], [(6, .v (.s 1))]⟩)
(.block 0
 (.seq
 (.reg ⟨[], [], [(5, .v (.bin .eql (.s 6) (.c (.int .i64 (1)))))]⟩)
 (.cond (.s 5)
  (.reg ⟨[], [], [(3, .m [(.m 3 0), (.m 3 1), (.m 3 2), (.m 3 3), (.m 3 4), (.one (.s 2)), (.m 3 6), (.m 3 7), (.m 3 8), (.m 3 9)])]⟩)
  (.seq
  (.reg ⟨[], [], [(7, .v (.bin .eql (.s 6) (.c (.int .i64 (2)))))]⟩)
  (.cond (.s 7)
   (.reg ⟨[], [], [(3, .m [(.m 3 0), (.m 3 1), (.m 3 2), (.m 3 3), (.m 3 4), (.m 3 5), (.one (.s 2)), (.m 3 7), (.m 3 8), (.m 3 9)])]⟩)
   (.seq
   (.reg ⟨[], [], [(8, .v (.bin .eql (.s 6) (.c (.int .i64 (3)))))]⟩)
   (.cond (.s 8)
    (.reg ⟨[], [], [(3, .m [(.m 3 0), (.m 3 1), (.m 3 2), (.m 3 3), (.m 3 4), (.m 3 5), (.m 3 6), (.one (.s 2)), (.m 3 8), (.m 3 9)])]⟩)
    (.reg ⟨[], [], [(3, .m [(.m 3 0), (.m 3 1), (.m 3 2), (.m 3 3), (.m 3 4), (.m 3 5), (.m 3 6), (.m 3 7), (.one (.s 2)), (.m 3 9)])]⟩)))))))))
(.seq
(.reg ⟨[], [], [(4, .m [(.fld (.mm 3 0 10) 0), (.fld (.mm 3 0 10) 1), (.fld (.mm 3 0 10) 2), (.fld (.mm 3 0 10) 3), (.fld (.mm 3 0 10) 4), (.fld (.mm 3 0 10) 5), (.fld (.mm 3 0 10) 6), (.fld (.mm 3 0 10) 7), (.fld (.mm 3 0 10) 8), (.fld (.mm 3 0 10) 9)])]⟩)
.ret))),
[(4, (.ag 10))]⟩
theorem c27 : compFn Try.prog fresh sig [.fz, .fz, .fz] [] Try.f27 = some p27 := by kernel_rfl
/-- cromlech/cromlechref10.Part -/
def p28 : Fn := ⟨8, [0, 1, 2, 4, 6, 5, 10, 14],
(.seq
(.reg ⟨[], [], [(2, .m [(.fld (.sz (.s 0) 10) 0), (.fld (.sz (.s 0) 10) 1), (.fld (.sz (.s 0) 10) 2), (.fld (.sz (.s 0) 10) 3), (.fld (.sz (.s 0) 10) 4), (.fld (.sz (.s 0) 10) 5), (.fld (.sz (.s 0) 10) 6), (.fld (.sz (.s 0) 10) 7), (.fld (.sz (.s 0) 10) 8), (.fld (.sz (.s 0) 10) 9)]), (3, .v (.c (.sl [])))]⟩)
(.seq
(.seq
(.reg ⟨[], [], [(5, .v (.s 1))]⟩)
(.block 0
 (.seq
 (.reg ⟨[], [], [(4, .v (.bin .eql (.s 5) (.c (.int .i64 (1)))))]⟩)
 (.cond (.s 4)
  (.seq
  (.reg ⟨[], [], [(3, .v (.m 2 5))]⟩)
  .ret)
  (.seq
  (.reg ⟨[], [], [(6, .v (.bin .eql (.s 5) (.c (.int .i64 (2)))))]⟩)
  (.cond (.s 6)
   (.seq
   (.reg ⟨[], [], [(3, .v (.m 2 6))]⟩)
   .ret)
   (.seq
   (.reg ⟨[], [], [(7, .v (.bin .eql (.s 5) (.c (.int .i64 (3)))))]⟩)
   (.cond (.s 7)
    (.seq
    (.reg ⟨[], [], [(3, .v (.m 2 7))]⟩)
    .ret)
    .skip))))))))
(.seq
(.reg ⟨[], [], [(3, .v (.m 2 8))]⟩)
.ret))),
[(3, .v)]⟩
theorem c28 : compFn Try.prog fresh sig [.fz, .fz] [] Try.f28 = some p28 := by kernel_rfl
/-- cromlech/cromlechlaw11.pick -/
def p29 : Fn := ⟨4, [0, 1, 4, 6],
(.seq
(.reg ⟨[], [], [(2, .v (.c (.int .i64 (0))))]⟩)
(.seq
(.seq
(.reg ⟨[], [], [(3, .v (.bin .lss (.s 0) (.c (.int .i64 (0)))))]⟩)
(.cond (.s 3)
 (.reg ⟨[], [], [(0, .v (.un .neg (.bin .add (.s 0) (.c (.int .i64 (1))))))]⟩)
 .skip))
(.seq
(.reg ⟨[], [], [(2, .v (.bin .rem (.s 0) (.s 1)))]⟩)
.ret))),
[(2, .v)]⟩
theorem c29 : compFn Try.prog fresh sig [.fz, .fz] [] Try.f29 = some p29 := by kernel_rfl
/-- cromlech/cromlechref10.Layout -/
def p38 : Fn := ⟨3, [0, 1, 2],
(.seq
(.reg ⟨[], [], [(1, .m [(.fld (.sz (.s 0) 10) 0), (.fld (.sz (.s 0) 10) 1), (.fld (.sz (.s 0) 10) 2), (.fld (.sz (.s 0) 10) 3), (.fld (.sz (.s 0) 10) 4), (.fld (.sz (.s 0) 10) 5), (.fld (.sz (.s 0) 10) 6), (.fld (.sz (.s 0) 10) 7), (.fld (.sz (.s 0) 10) 8), (.fld (.sz (.s 0) 10) 9)]), (2, .m [(.c (.int .u64 (0))), (.c (.int .i64 (0))), (.c (.int .i64 (0))), (.c (.int .i64 (0))), (.c (.int .i64 (0))), (.c (.int .i64 (0))), (.c (.int .i64 (0)))])]⟩)
(.seq
(.reg ⟨[], [], [(2, .m [(.fld (.ag [(.m 1 0), (.m 1 1), (.m 1 2), (.len (.m 1 5)), (.len (.m 1 6)), (.len (.m 1 7)), (.len (.m 1 8))]) 0), (.fld (.ag [(.m 1 0), (.m 1 1), (.m 1 2), (.len (.m 1 5)), (.len (.m 1 6)), (.len (.m 1 7)), (.len (.m 1 8))]) 1), (.fld (.ag [(.m 1 0), (.m 1 1), (.m 1 2), (.len (.m 1 5)), (.len (.m 1 6)), (.len (.m 1 7)), (.len (.m 1 8))]) 2), (.fld (.ag [(.m 1 0), (.m 1 1), (.m 1 2), (.len (.m 1 5)), (.len (.m 1 6)), (.len (.m 1 7)), (.len (.m 1 8))]) 3), (.fld (.ag [(.m 1 0), (.m 1 1), (.m 1 2), (.len (.m 1 5)), (.len (.m 1 6)), (.len (.m 1 7)), (.len (.m 1 8))]) 4), (.fld (.ag [(.m 1 0), (.m 1 1), (.m 1 2), (.len (.m 1 5)), (.len (.m 1 6)), (.len (.m 1 7)), (.len (.m 1 8))]) 5), (.fld (.ag [(.m 1 0), (.m 1 1), (.m 1 2), (.len (.m 1 5)), (.len (.m 1 6)), (.len (.m 1 7)), (.len (.m 1 8))]) 6)])]⟩)
.ret)),
[(2, (.ag 7))]⟩
theorem c38 : compFn Try.prog fresh sig [.fz] [] Try.f38 = some p38 := by kernel_rfl
/-- cromlech/cromlechref01.Nums -/
def p42 : Fn := ⟨7, [0, 1, 4, 10, 5, 14, 25],
(.seq
(.reg ⟨[], [], [(2, .v (.c (.bool false)))]⟩)
(.seq
(.seq
(.reg ⟨[], [], [(3, .v (.bin .neq (.len (.s 0)) (.len (.s 1))))]⟩)
(.cond (.s 3)
 (.seq
 (.reg ⟨[], [], [(2, .v (.c (.bool false)))]⟩)
 .ret)
 .skip))
(.seq
(.seq
(.reg ⟨[], [], [(4, .v (.c (.int .i64 (0))))]⟩)
(.block 0
 (.loop [0, 1, 2, 3, 4]
  (.seq
  (.seq
  (.reg ⟨[], [], [(5, .v (.bin .lss (.s 4) (.len (.s 0))))]⟩)
  (.cond (.s 5)
   .skip
   (.exit 0)))
  (.seq
  (.block 1
   (.seq
   (.reg ⟨[], [], [(6, .v (.bin .neq (.fld (.idx (.s 0) (.s 4) 1) 0) (.fld (.idx (.s 1) (.s 4) 1) 0)))]⟩)
   (.cond (.s 6)
    (.seq
    (.reg ⟨[], [], [(2, .v (.c (.bool false)))]⟩)
    .ret)
    .skip)))
  (.reg ⟨[], [], [(4, .v (.bin .add (.s 4) (.c (.int .i64 (1)))))]⟩))))))
(.seq
(.reg ⟨[], [], [(2, .v (.c (.bool true)))]⟩)
.ret)))),
[(2, .v)]⟩
theorem c42 : compFn Try.prog fresh sig [.fz, .fz] [] Try.f42 = some p42 := by kernel_rfl
/-- cromlech/heap.Layout -/
def p54 : Fn := ⟨3, [0, 1, 2],
(.seq
(.reg ⟨[], [], [(1, .m [(.fld (.sz (.s 0) 10) 0), (.fld (.sz (.s 0) 10) 1), (.fld (.sz (.s 0) 10) 2), (.fld (.sz (.s 0) 10) 3), (.fld (.sz (.s 0) 10) 4), (.fld (.sz (.s 0) 10) 5), (.fld (.sz (.s 0) 10) 6), (.fld (.sz (.s 0) 10) 7), (.fld (.sz (.s 0) 10) 8), (.fld (.sz (.s 0) 10) 9)]), (2, .m [(.c (.int .u64 (0))), (.c (.int .i64 (0))), (.c (.int .i64 (0))), (.c (.int .i64 (0))), (.c (.int .i64 (0))), (.c (.int .i64 (0))), (.c (.int .i64 (0)))])]⟩)
(.seq
(.reg ⟨[], [], [(2, .m [(.fld (.ag [(.m 1 0), (.m 1 1), (.m 1 2), (.len (.m 1 5)), (.len (.m 1 6)), (.len (.m 1 7)), (.len (.m 1 8))]) 0), (.fld (.ag [(.m 1 0), (.m 1 1), (.m 1 2), (.len (.m 1 5)), (.len (.m 1 6)), (.len (.m 1 7)), (.len (.m 1 8))]) 1), (.fld (.ag [(.m 1 0), (.m 1 1), (.m 1 2), (.len (.m 1 5)), (.len (.m 1 6)), (.len (.m 1 7)), (.len (.m 1 8))]) 2), (.fld (.ag [(.m 1 0), (.m 1 1), (.m 1 2), (.len (.m 1 5)), (.len (.m 1 6)), (.len (.m 1 7)), (.len (.m 1 8))]) 3), (.fld (.ag [(.m 1 0), (.m 1 1), (.m 1 2), (.len (.m 1 5)), (.len (.m 1 6)), (.len (.m 1 7)), (.len (.m 1 8))]) 4), (.fld (.ag [(.m 1 0), (.m 1 1), (.m 1 2), (.len (.m 1 5)), (.len (.m 1 6)), (.len (.m 1 7)), (.len (.m 1 8))]) 5), (.fld (.ag [(.m 1 0), (.m 1 1), (.m 1 2), (.len (.m 1 5)), (.len (.m 1 6)), (.len (.m 1 7)), (.len (.m 1 8))]) 6)])]⟩)
.ret)),
[(2, (.ag 7))]⟩
theorem c54 : compFn Try.prog fresh sig [.fz] [] Try.f54 = some p54 := by kernel_rfl
/-- cromlech/cromlechlaw20.pick -/
def p79 : Fn := ⟨4, [0, 1, 4, 6],
(.seq
(.reg ⟨[], [], [(2, .v (.c (.int .i64 (0))))]⟩)
(.seq
(.seq
(.reg ⟨[], [], [(3, .v (.bin .lss (.s 0) (.c (.int .i64 (0)))))]⟩)
(.cond (.s 3)
 (.reg ⟨[], [], [(0, .v (.un .neg (.bin .add (.s 0) (.c (.int .i64 (1))))))]⟩)
 .skip))
(.seq
(.reg ⟨[], [], [(2, .v (.bin .rem (.s 0) (.s 1)))]⟩)
.ret))),
[(2, .v)]⟩
theorem c79 : compFn Try.prog fresh sig [.fz, .fz] [] Try.f79 = some p79 := by kernel_rfl
/-- cromlech/cromlechlaw07.pick -/
def p82 : Fn := ⟨4, [0, 1, 4, 6],
(.seq
(.reg ⟨[], [], [(2, .v (.c (.int .i64 (0))))]⟩)
(.seq
(.seq
(.reg ⟨[], [], [(3, .v (.bin .lss (.s 0) (.c (.int .i64 (0)))))]⟩)
(.cond (.s 3)
 (.reg ⟨[], [], [(0, .v (.un .neg (.bin .add (.s 0) (.c (.int .i64 (1))))))]⟩)
 .skip))
(.seq
(.reg ⟨[], [], [(2, .v (.bin .rem (.s 0) (.s 1)))]⟩)
.ret))),
[(2, .v)]⟩
theorem c82 : compFn Try.prog fresh sig [.fz, .fz] [] Try.f82 = some p82 := by kernel_rfl
/-- cromlech/cromlechlaw10.pick -/
def p88 : Fn := ⟨4, [0, 1, 4, 6],
(.seq
(.reg ⟨[], [], [(2, .v (.c (.int .i64 (0))))]⟩)
(.seq
(.seq
(.reg ⟨[], [], [(3, .v (.bin .lss (.s 0) (.c (.int .i64 (0)))))]⟩)
(.cond (.s 3)
 (.reg ⟨[], [], [(0, .v (.un .neg (.bin .add (.s 0) (.c (.int .i64 (1))))))]⟩)
 .skip))
(.seq
(.reg ⟨[], [], [(2, .v (.bin .rem (.s 0) (.s 1)))]⟩)
.ret))),
[(2, .v)]⟩
theorem c88 : compFn Try.prog fresh sig [.fz, .fz] [] Try.f88 = some p88 := by kernel_rfl
/-- cromlech/cromlechlaw08.pick -/
def p100 : Fn := ⟨4, [0, 1, 4, 6],
(.seq
(.reg ⟨[], [], [(2, .v (.c (.int .i64 (0))))]⟩)
(.seq
(.seq
(.reg ⟨[], [], [(3, .v (.bin .lss (.s 0) (.c (.int .i64 (0)))))]⟩)
(.cond (.s 3)
 (.reg ⟨[], [], [(0, .v (.un .neg (.bin .add (.s 0) (.c (.int .i64 (1))))))]⟩)
 .skip))
(.seq
(.reg ⟨[], [], [(2, .v (.bin .rem (.s 0) (.s 1)))]⟩)
.ret))),
[(2, .v)]⟩
theorem c100 : compFn Try.prog fresh sig [.fz, .fz] [] Try.f100 = some p100 := by kernel_rfl
end Vm
