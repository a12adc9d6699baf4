/-
  Which functions write what they are handed, and what of it.
-/
import Derived.Test.YtbmgnmjghhakhaaV3
import Derived.Test.YtbmgnmjghhakhaaChecked
namespace Vm
open Go
open Go.Proofs
def sig (f : FuncId) : Option (List OT) :=
  if f = 60 then some [.fz, .mem [.own 72], .mem [.own 3]] else
  if f = 52 then some [.fz, .mem [.fz, .fz]] else
  if f = 44 then some [.fz, .own 72] else
  if f = 42 then some [.fz, .own 72] else
  none
def fresh (f : FuncId) : Bool := f == 58
theorem follows : Try.prog.follows .mixedOrders = true := by kernel_rfl
end Vm
