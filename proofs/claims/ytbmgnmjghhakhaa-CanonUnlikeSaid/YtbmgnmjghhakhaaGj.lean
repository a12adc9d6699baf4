/-
  MADE BY A PROGRAM: programs that the compiler makes of functions, and that it makes them.
-/
import Derived.Test.YtbmgnmjghhakhaaGs
namespace Vm
open Go
open Go.Proofs
set_option maxRecDepth 100000
/-- cromlech/cromlechlaw08.GraphSlots -/
def p8 : Fn := ⟨38, [0, 1, 2, 3, 4, 5, 12, 13, 14, 15, 16, 17, 19, 18, 20, 67, 22, 21, 23, 25, 24, 26, 96, 108, 28, 27, 29, 142, 30, 32, 31, 33, 35, 34, 36, 38, 37, 39],
(.seq
(.reg ⟨[], [], [(6, .v (.c (.bool false)))]⟩)
(.seq
(.reg ⟨[.call 38 [] 31 false false []], [], [(7, .v (.s 38))]⟩)
(.seq
(.reg ⟨[.call 39 [] 16 false false [(.s 0), (.s 1)]], [], [(8, .m [(.fld (.sz (.s 39) 2) 0), (.fld (.sz (.s 39) 2) 1)])]⟩)
(.seq
(.reg ⟨[.call 40 [] 34 false false [(.s 2), (.len (.m 8 1))]], [], [(9, .v (.s 40))]⟩)
(.seq
(.reg ⟨[.call 41 [] 34 false false [(.s 3), (.len (.m 8 1))]], [], [(10, .v (.s 41))]⟩)
(.seq
(.reg ⟨[.call 42 [] 34 false false [(.s 4), (.c (.int .i64 (4)))]], [], [(11, .v (.s 42))]⟩)
(.seq
(.reg ⟨[.call 43 [] 35 false false [(.mm 8 0 2), (.ag [(.c (.int .i64 (5))), (.c (.int .i64 (0))), (.one (.s 10)), (.one (.s 11)), (.c (.int .i64 (0))), (.c (.int .i64 (0))), (.one (.s 5))])]], [], [(12, .m [(.fld (.sz (.ext (.s 43) 1) 2) 0), (.fld (.sz (.ext (.s 43) 1) 2) 1)]), (13, .v (.ext (.s 43) 0)), (14, .v (.ext (.s 43) 2))]⟩)
(.seq
(.seq
(.reg ⟨[], [], [(15, .v (.bin .eql (.s 14) (.c (.int .i64 (0)))))]⟩)
(.cond (.s 15)
 (.seq
 (.reg ⟨[.call 44 [] 35 false false [(.mm 12 0 2), (.ag [(.c (.int .i64 (6))), (.one (.s 9)), (.one (.s 10)), (.c (.int .i64 (0))), (.c (.int .i64 (0))), (.c (.int .i64 (0))), (.c (.int .u64 (0)))])]], [], [(16, .m [(.fld (.sz (.ext (.s 44) 1) 2) 0), (.fld (.sz (.ext (.s 44) 1) 2) 1)]), (17, .v (.ext (.s 44) 0)), (18, .v (.ext (.s 44) 2))]⟩)
 (.seq
 (.reg ⟨[.call 45 [] 35 false false [(.mm 16 0 2), (.ag [(.c (.int .i64 (3))), (.c (.int .i64 (0))), (.one (.s 9)), (.one (.s 11)), (.c (.int .i64 (0))), (.c (.int .i64 (0))), (.c (.int .u64 (0)))])]], [], [(19, .m [(.fld (.sz (.ext (.s 45) 1) 2) 0), (.fld (.sz (.ext (.s 45) 1) 2) 1)]), (20, .v (.ext (.s 45) 0)), (21, .v (.ext (.s 45) 2))]⟩)
 (.seq
 (.reg ⟨[.lt 46 [] (.bin .neq (.s 18) (.c (.int .i64 (0)))), .lt 47 [] (.ite (.s 46) (.c (.bool true)) (.bin .neq (.s 21) (.c (.int .i64 (0)))))], [([(46, false)], (.bin .neq (.s 21) (.c (.int .i64 (0))))), ([(47, false)], (.bin .neq (.s 20) (.s 5)))], [(22, .v (.ite (.s 47) (.c (.bool true)) (.bin .neq (.s 20) (.s 5))))]⟩)
 (.cond (.s 22)
  (.seq
  (.reg ⟨[], [], [(6, .v (.c (.bool false)))]⟩)
  .ret)
  .skip))))
 .skip))
(.seq
(.reg ⟨[.call 48 [] 35 false false [(.mm 8 0 2), (.ag [(.c (.int .i64 (4))), (.one (.s 9)), (.one (.s 10)), (.one (.s 11)), (.c (.int .i64 (0))), (.c (.int .i64 (0))), (.c (.int .u64 (0)))])]], [([], (.ext (.s 48) 0))], [(12, .m [(.fld (.sz (.ext (.s 48) 1) 2) 0), (.fld (.sz (.ext (.s 48) 1) 2) 1)]), (14, .v (.ext (.s 48) 2))]⟩)
(.seq
(.seq
(.reg ⟨[], [], [(23, .v (.bin .eql (.s 14) (.c (.int .i64 (0)))))]⟩)
(.cond (.s 23)
 (.seq
 (.reg ⟨[.call 49 [] 35 false false [(.mm 12 0 2), (.ag [(.c (.int .i64 (2))), (.one (.s 9)), (.one (.s 10)), (.one (.s 11)), (.c (.int .i64 (0))), (.c (.int .i64 (0))), (.c (.int .u64 (0)))])]], [], [(24, .m [(.fld (.sz (.ext (.s 49) 1) 2) 0), (.fld (.sz (.ext (.s 49) 1) 2) 1)]), (25, .v (.ext (.s 49) 0)), (26, .v (.ext (.s 49) 2))]⟩)
 (.seq
 (.reg ⟨[.lt 50 [] (.bin .neq (.s 26) (.c (.int .i64 (0)))), .lt 51 [] (.ite (.s 50) (.c (.bool true)) (.bin .neq (.len (.m 24 1)) (.len (.m 8 1))))], [([(50, false)], (.bin .neq (.len (.m 24 1)) (.len (.m 8 1)))), ([(51, false)], (.bin .neq (.fld (.idx (.m 24 1) (.s 9) 1) 0) (.fld (.idx (.m 8 1) (.s 9) 1) 0)))], [(27, .v (.ite (.s 51) (.c (.bool true)) (.bin .neq (.fld (.idx (.m 24 1) (.s 9) 1) 0) (.fld (.idx (.m 8 1) (.s 9) 1) 0))))]⟩)
 (.cond (.s 27)
  (.seq
  (.reg ⟨[], [], [(6, .v (.c (.bool false)))]⟩)
  .ret)
  .skip)))
 .skip))
(.seq
(.reg ⟨[.call 52 [] 34 false false [(.s 4), (.c (.int .i64 (3)))]], [], [(28, .m [(.fld (.ag [(.c (.int .i64 (4))), (.bin .add (.c (.int .i64 (1))) (.s 52))]) 0), (.fld (.ag [(.c (.int .i64 (4))), (.bin .add (.c (.int .i64 (1))) (.s 52))]) 1)])]⟩)
(.seq
(.reg ⟨[.call 53 [] 35 false false [(.mm 8 0 2), (.ag [(.c (.int .i64 (1))), (.one (.s 9)), (.c (.int .i64 (0))), (.c (.int .i64 (0))), (.fld (.mm 28 0 2) 0), (.fld (.mm 28 0 2) 1), (.c (.int .u64 (0)))])]], [], [(29, .m [(.fld (.sz (.ext (.s 53) 1) 2) 0), (.fld (.sz (.ext (.s 53) 1) 2) 1)]), (30, .v (.ext (.s 53) 0)), (31, .v (.ext (.s 53) 2))]⟩)
(.seq
(.reg ⟨[.call 54 [] 34 false false [(.s 4), (.bin .sub (.c (.int .i64 (4))) (.m 28 1))], .call 55 [] 35 false false [(.mm 29 0 2), (.ag [(.c (.int .i64 (3))), (.c (.int .i64 (0))), (.one (.s 9)), (.one (.s 54)), (.c (.int .i64 (0))), (.c (.int .i64 (0))), (.c (.int .u64 (0)))])]], [], [(32, .m [(.fld (.sz (.ext (.s 55) 1) 2) 0), (.fld (.sz (.ext (.s 55) 1) 2) 1)]), (33, .v (.ext (.s 55) 0)), (34, .v (.ext (.s 55) 2))]⟩)
(.seq
(.reg ⟨[.call 56 [] 34 false false [(.s 4), (.m 28 1)], .call 57 [] 35 false false [(.mm 29 0 2), (.ag [(.c (.int .i64 (2))), (.one (.s 9)), (.one (.s 9)), (.one (.s 56)), (.c (.int .i64 (0))), (.c (.int .i64 (0))), (.c (.int .u64 (0)))])]], [], [(35, .m [(.fld (.sz (.ext (.s 57) 1) 2) 0), (.fld (.sz (.ext (.s 57) 1) 2) 1)]), (36, .v (.ext (.s 57) 0)), (37, .v (.ext (.s 57) 2))]⟩)
(.seq
(.reg ⟨[.lt 58 [] (.s 7), .lt 59 [] (.ite (.s 58) (.bin .eql (.s 31) (.c (.int .i64 (0)))) (.c (.bool false))), .lt 60 [] (.ite (.s 59) (.bin .eql (.s 34) (.c (.int .i64 (0)))) (.c (.bool false))), .lt 61 [] (.ite (.s 60) (.bin .eql (.s 33) (.c (.int .u64 (0)))) (.c (.bool false))), .lt 62 [] (.ite (.s 61) (.bin .eql (.s 37) (.c (.int .i64 (0)))) (.c (.bool false))), .lt 63 [] (.ite (.s 62) (.bin .eql (.len (.m 35 1)) (.len (.m 8 1))) (.c (.bool false))), .lt 64 [] (.ite (.s 63) (.bin .eql (.fld (.idx (.m 35 1) (.s 9) 1) 0) (.c (.int .i64 (-1)))) (.c (.bool false)))], [([(58, true)], (.bin .eql (.s 31) (.c (.int .i64 (0))))), ([(59, true)], (.bin .eql (.s 34) (.c (.int .i64 (0))))), ([(60, true)], (.bin .eql (.s 33) (.c (.int .u64 (0))))), ([(61, true)], (.bin .eql (.s 37) (.c (.int .i64 (0))))), ([(62, true)], (.bin .eql (.len (.m 35 1)) (.len (.m 8 1)))), ([(63, true)], (.bin .eql (.fld (.idx (.m 35 1) (.s 9) 1) 0) (.c (.int .i64 (-1))))), ([(64, true)], (.bin .eql (.len (.m 29 0)) (.bin .add (.len (.m 8 0)) (.c (.int .i64 (1))))))], [(6, .v (.ite (.s 64) (.bin .eql (.len (.m 29 0)) (.bin .add (.len (.m 8 0)) (.c (.int .i64 (1))))) (.c (.bool false))))]⟩)
.ret))))))))))))))),
[(6, .v)]⟩
theorem c8 : compFn Try.prog fresh sig [.fz, .fz, .fz, .fz, .fz, .fz] [] Try.f8 = some p8 := by kernel_rfl
/-- cromlech/cromlechlaw08.GraphRoots -/
def p10 : Fn := ⟨31, [0, 1, 2, 3, 4, 5, 12, 13, 14, 15, 16, 18, 17, 19, 21, 20, 22, 108, 23, 110, 25, 24, 26, 128, 28, 27, 29, 141, 31, 30, 32],
(.seq
(.reg ⟨[], [], [(6, .v (.c (.bool false)))]⟩)
(.seq
(.reg ⟨[.call 31 [] 31 false false []], [], [(7, .v (.s 31))]⟩)
(.seq
(.reg ⟨[.call 32 [] 16 false false [(.s 0), (.s 1)]], [], [(8, .m [(.fld (.sz (.s 32) 2) 0), (.fld (.sz (.s 32) 2) 1)])]⟩)
(.seq
(.reg ⟨[.call 33 [] 34 false false [(.s 2), (.len (.m 8 1))]], [], [(9, .v (.s 33))]⟩)
(.seq
(.reg ⟨[.call 34 [] 34 false false [(.s 3), (.len (.m 8 1))]], [], [(10, .v (.s 34))]⟩)
(.seq
(.reg ⟨[.call 35 [] 35 false false [(.mm 8 0 2), (.ag [(.c (.int .i64 (6))), (.one (.s 9)), (.one (.s 10)), (.c (.int .i64 (0))), (.c (.int .i64 (0))), (.c (.int .i64 (0))), (.c (.int .u64 (0)))])]], [], [(11, .m [(.fld (.sz (.ext (.s 35) 1) 2) 0), (.fld (.sz (.ext (.s 35) 1) 2) 1)]), (12, .v (.ext (.s 35) 0)), (13, .v (.ext (.s 35) 2))]⟩)
(.seq
(.reg ⟨[.call 36 [] 35 false false [(.mm 8 0 2), (.ag [(.c (.int .i64 (7))), (.one (.s 9)), (.c (.int .i64 (0))), (.c (.int .i64 (0))), (.c (.int .i64 (0))), (.c (.int .i64 (0))), (.c (.int .u64 (0)))])]], [], [(14, .m [(.fld (.sz (.ext (.s 36) 1) 2) 0), (.fld (.sz (.ext (.s 36) 1) 2) 1)]), (15, .v (.ext (.s 36) 0)), (16, .v (.ext (.s 36) 2))]⟩)
(.seq
(.seq
(.reg ⟨[.lt 37 [] (.bin .neq (.s 13) (.c (.int .i64 (0)))), .lt 38 [] (.ite (.s 37) (.c (.bool true)) (.bin .neq (.s 16) (.c (.int .i64 (0))))), .lt 39 [] (.ite (.s 38) (.c (.bool true)) (.bin .neq (.len (.m 11 1)) (.len (.m 8 1)))), .lt 40 [] (.ite (.s 39) (.c (.bool true)) (.bin .neq (.len (.m 14 1)) (.len (.m 8 1)))), .lt 41 [] (.ite (.s 40) (.c (.bool true)) (.bin .neq (.fld (.idx (.m 11 1) (.s 9) 1) 0) (.fld (.idx (.m 8 1) (.s 10) 1) 0)))], [([(37, false)], (.bin .neq (.s 16) (.c (.int .i64 (0))))), ([(38, false)], (.bin .neq (.len (.m 11 1)) (.len (.m 8 1)))), ([(39, false)], (.bin .neq (.len (.m 14 1)) (.len (.m 8 1)))), ([(40, false)], (.bin .neq (.fld (.idx (.m 11 1) (.s 9) 1) 0) (.fld (.idx (.m 8 1) (.s 10) 1) 0))), ([(41, false)], (.bin .neq (.fld (.idx (.m 14 1) (.s 9) 1) 0) (.c (.int .i64 (-1)))))], [(17, .v (.ite (.s 41) (.c (.bool true)) (.bin .neq (.fld (.idx (.m 14 1) (.s 9) 1) 0) (.c (.int .i64 (-1))))))]⟩)
(.cond (.s 17)
 (.seq
 (.reg ⟨[], [], [(6, .v (.c (.bool false)))]⟩)
 .ret)
 .skip))
(.seq
(.seq
(.reg ⟨[], [], [(18, .v (.c (.int .i64 (2))))]⟩)
(.block 0
 (.loop [0, 1, 2, 3, 4, 5, 6, 7, 8, 9, 10, 11, 12, 13, 14, 15, 16, 17, 18]
  (.seq
  (.seq
  (.reg ⟨[], [], [(19, .v (.bin .leq (.s 18) (.c (.int .i64 (5)))))]⟩)
  (.cond (.s 19)
   .skip
   (.exit 0)))
  (.seq
  (.block 1
   (.seq
   (.reg ⟨[.call 42 [] 34 false false [(.s 4), (.c (.int .i64 (9)))], .call 43 [] 35 false false [(.mm 14 0 2), (.ag [(.one (.s 18)), (.one (.s 10)), (.one (.s 9)), (.bin .sub (.s 42) (.c (.int .i64 (4)))), (.c (.int .i64 (0))), (.c (.int .i64 (0))), (.one (.s 5))])]], [], [(20, .m [(.fld (.sz (.ext (.s 43) 1) 2) 0), (.fld (.sz (.ext (.s 43) 1) 2) 1)]), (21, .v (.ext (.s 43) 0)), (22, .v (.ext (.s 43) 2))]⟩)
   (.seq
   (.reg ⟨[], [], [(23, .v (.bin .neq (.s 22) (.c (.int .i64 (6)))))]⟩)
   (.cond (.s 23)
    (.seq
    (.reg ⟨[], [], [(6, .v (.c (.bool false)))]⟩)
    .ret)
    .skip))))
  (.reg ⟨[], [], [(18, .v (.bin .add (.s 18) (.c (.int .i64 (1)))))]⟩))))))
(.seq
(.reg ⟨[.call 44 [] 34 false false [(.s 4), (.c (.int .i64 (4)))], .call 45 [] 35 false false [(.mm 11 0 2), (.ag [(.c (.int .i64 (5))), (.c (.int .i64 (0))), (.one (.s 9)), (.one (.s 44)), (.c (.int .i64 (0))), (.c (.int .i64 (0))), (.one (.s 5))])]], [], [(24, .m [(.fld (.sz (.ext (.s 45) 1) 2) 0), (.fld (.sz (.ext (.s 45) 1) 2) 1)]), (25, .v (.ext (.s 45) 0)), (26, .v (.ext (.s 45) 2))]⟩)
(.seq
(.seq
(.reg ⟨[], [], [(27, .v (.bin .neq (.s 26) (.c (.int .i64 (0)))))]⟩)
(.cond (.s 27)
 (.seq
 (.reg ⟨[], [], [(6, .v (.s 7))]⟩)
 .ret)
 .skip))
(.seq
(.reg ⟨[.call 46 [] 34 false false [(.s 4), (.c (.int .i64 (4)))], .call 47 [] 35 false false [(.mm 24 0 2), (.ag [(.c (.int .i64 (3))), (.c (.int .i64 (0))), (.one (.s 10)), (.one (.s 46)), (.c (.int .i64 (0))), (.c (.int .i64 (0))), (.c (.int .u64 (0)))])]], [], [(28, .m [(.fld (.sz (.ext (.s 47) 1) 2) 0), (.fld (.sz (.ext (.s 47) 1) 2) 1)]), (29, .v (.ext (.s 47) 0)), (30, .v (.ext (.s 47) 2))]⟩)
(.seq
(.reg ⟨[.lt 48 [] (.s 7), .lt 49 [] (.ite (.s 48) (.bin .eql (.s 30) (.c (.int .i64 (0)))) (.c (.bool false)))], [([(48, true)], (.bin .eql (.s 30) (.c (.int .i64 (0))))), ([(49, true)], (.bin .eql (.s 29) (.s 5)))], [(6, .v (.ite (.s 49) (.bin .eql (.s 29) (.s 5)) (.c (.bool false))))]⟩)
.ret))))))))))))),
[(6, .v)]⟩
theorem c10 : compFn Try.prog fresh sig [.fz, .fz, .fz, .fz, .fz, .fz] [] Try.f10 = some p10 := by kernel_rfl
end Vm
