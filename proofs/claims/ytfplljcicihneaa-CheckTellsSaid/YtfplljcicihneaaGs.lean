/-
  Which functions write what they are handed, and what of it.
-/
import Derived.Test.YtfplljcicihneaaV3
import Derived.Test.YtfplljcicihneaaChecked
namespace Vm
open Go
open Go.Proofs
def sig (f : FuncId) : Option (List OT) :=
  if f = 116 then some [.mem [.fz, .fz, .fz, .fz, .fz, .fz, .fz, .fz, .fz, .fz, .fz, .fz, .fz, .fz, .fz, .fz, .fz, .fz, .fz, .fz, .fz, .own 119, .own 120], .fz, .fz] else
  if f = 105 then some [.mem [.fz, .fz, .fz, .fz, .fz, .fz, .fz, .fz, .fz, .fz, .fz, .fz, .fz, .fz, .fz, .fz, .fz, .fz, .fz, .fz, .fz, .own 119, .own 120]] else
  if f = 1000107 then some [.mem [.fz, .fz, .fz, .fz, .fz, .fz, .fz, .fz, .fz, .fz, .fz, .fz, .fz, .fz, .fz, .fz, .fz, .fz, .fz, .fz, .fz, .own 119, .own 120]] else
  none
def fresh (f : FuncId) : Bool := f == 112 || f == 114
theorem follows : Try.prog.follows .mixedOrders = true := by kernel_rfl
end Vm
