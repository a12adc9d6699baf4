/-
  MADE BY A PROGRAM: programs that the compiler makes of functions, and that it makes them.
-/
import Derived.Test.YtbmgnmjghhakhaaGs
namespace Vm
open Go
open Go.Proofs
set_option maxRecDepth 100000
/-- cromlech/cromlechlaw09.Moved -/
def p17 : Fn := ⟨12, [0, 1, 2, 3, 6, 7, 8, 9, 16, 10, 27, 11],
(.seq
(.reg ⟨[], [], [(3, .m [(.fld (.sz (.s 0) 2) 0), (.fld (.sz (.s 0) 2) 1)]), (4, .m [(.c (.sl [])), (.c (.sl []))])]⟩)
(.seq
(.reg ⟨[], [], [(5, .v (.len (.m 3 0)))]⟩)
(.seq
(.reg ⟨[], [], [(6, .v (.c (.int .i64 (0))))]⟩)
(.seq
(.reg ⟨[], [([], (.ag [(.c (.sl [])), (.c (.sl []))]))], [(7, .m [(.c (.sl [])), (.c (.sl []))])]⟩)
(.seq
(.seq
(.reg ⟨[], [], [(8, .v (.s 2))]⟩)
(.cond (.s 8)
 (.seq
 (.reg ⟨[], [], [(6, .v (.c (.int .i64 (1))))]⟩)
 (.reg ⟨[], [], [(7, .m [(.app (.c (.sl [])) (.lit [(.ag [(.lit [(.c (.int .i64 (0)))]), (.lit [(.c (.int .u64 (7)))])])]) 2), (.m 7 1)])]⟩))
 .skip))
(.seq
(.seq
(.reg ⟨[], [], [(9, .v (.c (.int .i64 (0))))]⟩)
(.block 0
 (.loop [0, 1, 2, 3, 4, 5, 6, 7, 8, 9]
  (.seq
  (.seq
  (.reg ⟨[], [], [(10, .v (.bin .lss (.s 9) (.s 5)))]⟩)
  (.cond (.s 10)
   .skip
   (.exit 0)))
  (.seq
  (.block 1
   (.seq
   (.reg ⟨[.call 12 [] 30 false false [(.s 1), (.s 5)], .call 13 [] 30 false false [(.bin .sub (.bin .add (.s 9) (.s 5)) (.s 12)), (.s 5)]], [], [(11, .m [(.fld (.flds (.idx (.m 3 0) (.s 13) 2) 0 2) 0), (.fld (.flds (.idx (.m 3 0) (.s 13) 2) 0 2) 1)])]⟩)
   (.reg ⟨[.call 14 [] 36 false false [(.m 11 0), (.s 1), (.s 5), (.s 6)]], [], [(7, .m [(.app (.m 7 0) (.lit [(.ag [(.one (.s 14)), (.m 11 1)])]) 2), (.m 7 1)])]⟩)))
  (.reg ⟨[], [], [(9, .v (.bin .add (.s 9) (.c (.int .i64 (1)))))]⟩))))))
(.seq
(.reg ⟨[.call 15 [] 36 false false [(.m 3 1), (.s 1), (.s 5), (.s 6)]], [], [(7, .m [(.m 7 0), (.one (.s 15))])]⟩)
(.seq
(.reg ⟨[], [], [(4, .m [(.fld (.mm 7 0 2) 0), (.fld (.mm 7 0 2) 1)])]⟩)
.ret)))))))),
[(4, (.ag 2))]⟩
theorem c17 : compFn Try.prog fresh sig [.fz, .fz, .fz] [] Try.f17 = some p17 := by kernel_rfl
/-- cromlech/graph.Words -/
def p29 : Fn := ⟨10, [0, 1, 2, 8, 3, 12, 11, 13, 5, 10],
(.seq
(.reg ⟨[], [], [(1, .m [(.fld (.sz (.s 0) 2) 0), (.fld (.sz (.s 0) 2) 1)]), (2, .v (.c (.int .i64 (0))))]⟩)
(.seq
(.seq
(.reg ⟨[.call 10 [] 28 false false [(.mm 1 0 2)]], [], [(3, .v (.un .not (.s 10)))]⟩)
(.cond (.s 3)
 (.seq
 (.reg ⟨[], [], [(2, .v (.c (.int .i64 (0))))]⟩)
 .ret)
 .skip))
(.seq
(.reg ⟨[], [], [(4, .v (.c (.int .i64 (0))))]⟩)
(.seq
(.seq
(.reg ⟨[], [], [(5, .v (.c (.int .i64 (0)))), (6, .v (.len (.m 1 0))), (9, .v (.m 1 0))]⟩)
(.block 0
 (.loop [0, 1, 2, 3, 4, 5, 6, 9]
  (.seq
  (.reg ⟨[], [], [(7, .v (.bin .lss (.s 5) (.s 6)))]⟩)
  (.seq
  (.cond (.s 7)
   .skip
   (.exit 0))
  (.seq
  (.block 1
   (.seq
   (.reg ⟨[], [], [(8, .m [(.fld (.flds (.idx (.s 9) (.s 5) 2) 0 2) 0), (.fld (.flds (.idx (.s 9) (.s 5) 2) 0 2) 1)])]⟩)
   (.reg ⟨[], [], [(4, .v (.bin .add (.s 4) (.bin .add (.bin .add (.c (.int .i64 (1))) (.len (.m 8 0))) (.len (.m 8 1)))))]⟩)))
  (.reg ⟨[], [], [(5, .v (.bin .add (.s 5) (.c (.int .i64 (1)))))]⟩)))))))
(.seq
(.reg ⟨[], [], [(2, .v (.s 4))]⟩)
.ret))))),
[(2, .v)]⟩
theorem c29 : compFn Try.prog fresh sig [.fz] [] Try.f29 = some p29 := by kernel_rfl
/-- cromlech/cromlechlaw09.pick -/
def p30 : Fn := ⟨4, [0, 1, 4, 6],
(.seq
(.reg ⟨[], [], [(2, .v (.c (.int .i64 (0))))]⟩)
(.seq
(.seq
(.reg ⟨[], [], [(3, .v (.bin .lss (.s 0) (.c (.int .i64 (0)))))]⟩)
(.cond (.s 3)
 (.reg ⟨[], [], [(0, .v (.un .neg (.bin .add (.s 0) (.c (.int .i64 (1))))))]⟩)
 .skip))
(.seq
(.reg ⟨[], [], [(2, .v (.bin .rem (.s 0) (.s 1)))]⟩)
.ret))),
[(2, .v)]⟩
theorem c30 : compFn Try.prog fresh sig [.fz, .fz] [] Try.f30 = some p30 := by kernel_rfl
/-- cromlech/cromlechlaw09.moved -/
def p36 : Fn := ⟨9, [0, 1, 2, 3, 8, 9, 10, 14, 21],
(.seq
(.reg ⟨[], [], [(4, .v (.c (.sl [])))]⟩)
(.seq
(.reg ⟨[], [], [(5, .v (.c (.sl [])))]⟩)
(.seq
(.seq
(.reg ⟨[], [], [(6, .v (.c (.int .i64 (0))))]⟩)
(.block 0
 (.loop [0, 1, 2, 3, 4, 5, 6]
  (.seq
  (.seq
  (.reg ⟨[], [], [(7, .v (.bin .lss (.s 6) (.len (.s 0))))]⟩)
  (.cond (.s 7)
   .skip
   (.exit 0)))
  (.seq
  (.block 1
   (.seq
   (.reg ⟨[], [], [(8, .v (.bin .lss (.fld (.idx (.s 0) (.s 6) 1) 0) (.c (.int .i64 (0)))))]⟩)
   (.cond (.s 8)
    (.reg ⟨[], [], [(5, .v (.app (.s 5) (.lit [(.c (.int .i64 (-1)))]) 1))]⟩)
    (.reg ⟨[.call 9 [] 30 false false [(.s 1), (.s 2)], .call 10 [] 30 false false [(.bin .add (.fld (.idx (.s 0) (.s 6) 1) 0) (.s 9)), (.s 2)]], [], [(5, .v (.app (.s 5) (.lit [(.bin .add (.s 3) (.s 10))]) 1))]⟩))))
  (.reg ⟨[], [], [(6, .v (.bin .add (.s 6) (.c (.int .i64 (1)))))]⟩))))))
(.seq
(.reg ⟨[], [], [(4, .v (.s 5)), (5, .no)]⟩)
.ret)))),
[(4, .v)]⟩
theorem c36 : compFn Try.prog fresh sig [.fz, .fz, .fz, .fz] [] Try.f36 = some p36 := by kernel_rfl
end Vm
