/-
  MADE BY A PROGRAM: programs that the compiler makes of functions, and that it makes them.
-/
import Derived.Test.YtbmgnmjghhakhaaGs
namespace Vm
open Go
open Go.Proofs
set_option maxRecDepth 100000
/-- cromlech/cromlechlaw09.CanonAlike -/
def p4 : Fn := ⟨18, [0, 1, 2, 3, 4, 10, 11, 12, 13, 14, 15, 16, 17, 18, 19, 20, 21, 22],
(.seq
(.reg ⟨[], [], [(5, .v (.c (.bool false)))]⟩)
(.seq
(.reg ⟨[.call 18 [] 15 false false []], [], [(6, .v (.s 18))]⟩)
(.seq
(.reg ⟨[.call 19 [] 16 false false [(.s 0), (.s 1)]], [], [(7, .m [(.fld (.sz (.s 19) 2) 0), (.fld (.sz (.s 19) 2) 1)])]⟩)
(.seq
(.reg ⟨[.call 20 [] 16 false false [(.s 2), (.s 3)]], [], [(8, .m [(.fld (.sz (.s 20) 2) 0), (.fld (.sz (.s 20) 2) 1)])]⟩)
(.seq
(.reg ⟨[.call 21 [] 17 false false [(.mm 7 0 2), (.s 4), (.bin .eql (.bin .rem (.s 4) (.c (.int .i64 (2)))) (.c (.int .i64 (0))))]], [], [(9, .m [(.fld (.sz (.s 21) 2) 0), (.fld (.sz (.s 21) 2) 1)])]⟩)
(.seq
(.reg ⟨[.call 22 [] 20 false false [(.mm 7 0 2)]], [], [(10, .m [(.fld (.sz (.ext (.s 22) 0) 2) 0), (.fld (.sz (.ext (.s 22) 0) 2) 1)]), (11, .v (.ext (.s 22) 1))]⟩)
(.seq
(.reg ⟨[.call 23 [] 20 false false [(.mm 8 0 2)]], [], [(12, .m [(.fld (.sz (.ext (.s 23) 0) 2) 0), (.fld (.sz (.ext (.s 23) 0) 2) 1)]), (13, .v (.ext (.s 23) 1))]⟩)
(.seq
(.reg ⟨[.call 24 [] 20 false false [(.mm 9 0 2)]], [], [(14, .m [(.fld (.sz (.ext (.s 24) 0) 2) 0), (.fld (.sz (.ext (.s 24) 0) 2) 1)]), (15, .v (.ext (.s 24) 1))]⟩)
(.seq
(.reg ⟨[.call 25 [] 20 false false [(.mm 10 0 2)]], [], [(16, .m [(.fld (.sz (.ext (.s 25) 0) 2) 0), (.fld (.sz (.ext (.s 25) 0) 2) 1)]), (17, .v (.ext (.s 25) 1))]⟩)
(.seq
(.reg ⟨[.lt 26 [] (.s 6), .lt 27 [] (.ite (.s 26) (.bin .eql (.s 11) (.c (.int .i64 (0)))) (.c (.bool false))), .lt 28 [] (.ite (.s 27) (.bin .eql (.s 13) (.c (.int .i64 (0)))) (.c (.bool false))), .lt 29 [] (.ite (.s 28) (.bin .eql (.s 15) (.c (.int .i64 (0)))) (.c (.bool false))), .lt 30 [] (.ite (.s 29) (.bin .eql (.s 17) (.c (.int .i64 (0)))) (.c (.bool false))), .call 31 [(30, true)] 26 false false [(.mm 7 0 2), (.mm 8 0 2)], .call 32 [(30, true)] 25 false false [(.mm 10 0 2), (.mm 12 0 2)], .lt 33 [] (.ite (.s 30) (.eqv false (.s 31) (.s 32)) (.c (.bool false))), .call 34 [(33, true)] 26 false false [(.mm 7 0 2), (.mm 8 0 2)], .call 35 [(33, true)] 26 false false [(.mm 8 0 2), (.mm 7 0 2)], .lt 36 [] (.ite (.s 33) (.eqv false (.s 34) (.s 35)) (.c (.bool false))), .call 37 [(36, true)] 26 false false [(.mm 7 0 2), (.mm 9 0 2)], .lt 38 [] (.ite (.s 36) (.s 37) (.c (.bool false))), .call 39 [(38, true)] 25 false false [(.mm 10 0 2), (.mm 14 0 2)], .lt 40 [] (.ite (.s 38) (.s 39) (.c (.bool false))), .call 41 [(40, true)] 25 false false [(.mm 10 0 2), (.mm 16 0 2)], .lt 42 [] (.ite (.s 40) (.s 41) (.c (.bool false))), .call 43 [(42, true)] 26 false false [(.mm 7 0 2), (.mm 10 0 2)], .lt 44 [] (.ite (.s 42) (.s 43) (.c (.bool false))), .call 45 [(44, true)] 28 false false [(.mm 10 0 2)]], [([(26, true)], (.bin .eql (.s 11) (.c (.int .i64 (0))))), ([(27, true)], (.bin .eql (.s 13) (.c (.int .i64 (0))))), ([(28, true)], (.bin .eql (.s 15) (.c (.int .i64 (0))))), ([(29, true)], (.bin .eql (.s 17) (.c (.int .i64 (0))))), ([(30, true)], (.eqv false (.s 31) (.s 32))), ([(33, true)], (.eqv false (.s 34) (.s 35)))], [(5, .v (.ite (.s 44) (.s 45) (.c (.bool false))))]⟩)
.ret)))))))))),
[(5, .v)]⟩
theorem c4 : compFn Try.prog fresh sig [.fz, .fz, .fz, .fz, .fz] [] Try.f4 = some p4 := by kernel_rfl
end Vm
