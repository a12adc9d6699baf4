/-
  MADE BY A PROGRAM: programs that the compiler makes of functions, and that it makes them.
-/
import Derived.Test.YtfplljcicihneaaGs
namespace Vm
open Go
open Go.Proofs
set_option maxRecDepth 100000
/-- cromlech/objects.pointer -/
def p132 : Fn := ⟨4, [0, 2, 3, 4],
(.seq
(.reg ⟨[], [], [(1, .v (.c (.bool false)))]⟩)
(.seq
(.reg ⟨[.call 4 [] (.id 57) false false [(.s 0)]], [], [(2, .v (.ext (.s 4) 0)), (3, .v (.ext (.s 4) 1))]⟩)
(.seq
(.reg ⟨[.lt 5 [] (.bin .eql (.s 0) (.c (.int .u64 (0))))], [([(5, false)], (.bin .eql (.s 3) (.c (.int .i64 (0)))))], [(1, .v (.ite (.s 5) (.c (.bool true)) (.bin .eql (.s 3) (.c (.int .i64 (0))))))]⟩)
.ret))),
[(1, .v)]⟩
theorem c132 : compFn Try.prog fresh sig [.fz] [] Try.f132 = some p132 := by kernel_rfl
end Vm
