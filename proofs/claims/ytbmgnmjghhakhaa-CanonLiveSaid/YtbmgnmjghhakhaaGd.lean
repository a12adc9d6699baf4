/-
  MADE BY A PROGRAM: programs that the compiler makes of functions, and that it makes them.
-/
import Derived.Test.YtbmgnmjghhakhaaGs
namespace Vm
open Go
open Go.Proofs
set_option maxRecDepth 100000
/-- cromlech/cromlechlaw09.CanonLive -/
def p6 : Fn := ⟨17, [0, 1, 2, 6, 7, 8, 9, 10, 62, 11, 12, 69, 13, 14, 15, 16, 17],
(.seq
(.reg ⟨[], [], [(3, .v (.c (.bool false)))]⟩)
(.seq
(.reg ⟨[.call 17 [] 15 false false []], [], [(4, .v (.s 17))]⟩)
(.seq
(.reg ⟨[.call 18 [] 16 false false [(.s 0), (.s 1)]], [], [(5, .m [(.fld (.sz (.s 18) 2) 0), (.fld (.sz (.s 18) 2) 1)])]⟩)
(.seq
(.reg ⟨[.call 19 [] 20 false false [(.mm 5 0 2)]], [], [(6, .m [(.fld (.sz (.ext (.s 19) 0) 2) 0), (.fld (.sz (.ext (.s 19) 0) 2) 1)]), (7, .v (.ext (.s 19) 1))]⟩)
(.seq
(.seq
(.reg ⟨[.lt 20 [] (.bin .neq (.s 7) (.c (.int .i64 (0)))), .lt 21 [] (.ite (.s 20) (.c (.bool true)) (.bin .gtr (.len (.m 6 0)) (.len (.m 5 0)))), .call 22 [(21, false)] 29 false false [(.mm 6 0 2)], .call 23 [(21, false)] 29 false false [(.mm 5 0 2)], .lt 24 [] (.ite (.s 21) (.c (.bool true)) (.bin .gtr (.s 22) (.s 23))), .lt 25 [] (.ite (.s 24) (.c (.bool true)) (.bin .neq (.len (.m 6 1)) (.len (.m 5 1)))), .call 26 [(25, false)] 23 false false [(.mm 5 0 2)]], [([(20, false)], (.bin .gtr (.len (.m 6 0)) (.len (.m 5 0)))), ([(21, false)], (.bin .gtr (.s 22) (.s 23))), ([(24, false)], (.bin .neq (.len (.m 6 1)) (.len (.m 5 1)))), ([(25, false)], (.bin .neq (.len (.m 6 0)) (.len (.s 26))))], [(8, .v (.ite (.s 25) (.c (.bool true)) (.bin .neq (.len (.m 6 0)) (.len (.s 26)))))]⟩)
(.cond (.s 8)
 (.seq
 (.reg ⟨[], [], [(3, .v (.c (.bool false)))]⟩)
 .ret)
 .skip))
(.seq
(.reg ⟨[], [], [(9, .m [(.fld (.mm 5 0 2) 0), (.fld (.mm 5 0 2) 1)])]⟩)
(.seq
(.reg ⟨[], [], [(9, .m [(.m 9 0), (.c (.sl []))])]⟩)
(.seq
(.seq
(.reg ⟨[], [], [(10, .v (.c (.int .i64 (0))))]⟩)
(.block 0
 (.loop [0, 1, 2, 3, 4, 5, 6, 7, 8, 9, 10]
  (.seq
  (.seq
  (.reg ⟨[], [], [(11, .v (.bin .lss (.s 10) (.len (.m 5 1))))]⟩)
  (.cond (.s 11)
   .skip
   (.exit 0)))
  (.seq
  (.block 1
   (.reg ⟨[], [], [(9, .m [(.m 9 0), (.app (.m 9 1) (.lit [(.c (.int .i64 (-1)))]) 1)])]⟩))
  (.reg ⟨[], [], [(10, .v (.bin .add (.s 10) (.c (.int .i64 (1)))))]⟩))))))
(.seq
(.reg ⟨[.call 27 [] 20 false false [(.mm 9 0 2)]], [], [(12, .m [(.fld (.sz (.ext (.s 27) 0) 2) 0), (.fld (.sz (.ext (.s 27) 0) 2) 1)]), (13, .v (.fl (.ext (.s 27) 1)))]⟩)
(.seq
(.reg ⟨[], [], [(14, .m [(.fld (.mm 5 0 2) 0), (.fld (.mm 5 0 2) 1)])]⟩)
(.seq
(.reg ⟨[.call 28 [] 30 false false [(.s 2), (.len (.m 5 1))]], [], [(14, .m [(.m 14 0), (.app (.app (.c (.sl [])) (.m 5 1) 1) (.lit [(.fld (.idx (.m 5 1) (.s 28) 1) 0)]) 1)])]⟩)
(.seq
(.reg ⟨[.call 29 [] 20 false false [(.mm 14 0 2)]], [], [(15, .m [(.fld (.sz (.ext (.s 29) 0) 2) 0), (.fld (.sz (.ext (.s 29) 0) 2) 1)]), (16, .v (.fl (.ext (.s 29) 1)))]⟩)
(.seq
(.reg ⟨[.lt 30 [] (.s 4), .lt 31 [] (.ite (.s 30) (.bin .eql (.s 13) (.c (.int .i64 (0)))) (.c (.bool false))), .lt 32 [] (.ite (.s 31) (.bin .eql (.len (.m 12 0)) (.c (.int .i64 (0)))) (.c (.bool false))), .lt 33 [] (.ite (.s 32) (.bin .eql (.s 16) (.c (.int .i64 (0)))) (.c (.bool false))), .lt 34 [] (.ite (.s 33) (.bin .eql (.len (.m 15 0)) (.len (.m 6 0))) (.c (.bool false)))], [([(30, true)], (.bin .eql (.s 13) (.c (.int .i64 (0))))), ([(31, true)], (.bin .eql (.len (.m 12 0)) (.c (.int .i64 (0))))), ([(32, true)], (.bin .eql (.s 16) (.c (.int .i64 (0))))), ([(33, true)], (.bin .eql (.len (.m 15 0)) (.len (.m 6 0)))), ([(34, true)], (.bin .eql (.len (.m 15 1)) (.bin .add (.len (.m 6 1)) (.c (.int .i64 (1))))))], [(3, .v (.ite (.s 34) (.bin .eql (.len (.m 15 1)) (.bin .add (.len (.m 6 1)) (.c (.int .i64 (1))))) (.c (.bool false))))]⟩)
.ret))))))))))))),
[(3, .v)]⟩
theorem c6 : compFn Try.prog fresh sig [.fz, .fz, .fz] [] Try.f6 = some p6 := by kernel_rfl
end Vm
