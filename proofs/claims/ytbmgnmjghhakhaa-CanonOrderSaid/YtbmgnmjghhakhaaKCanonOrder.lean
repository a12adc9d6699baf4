/-
  The law CanonOrder holds of the given program, for every input.
-/
import Derived.Test.YtbmgnmjghhakhaaRows
import Derived.Test.YtbmgnmjghhakhaaUb
import Derived.Test.YtbmgnmjghhakhaaWh
namespace Go.Proofs.Ytbmgnmjghhakhaa
open Vm Go.ChangeShapes Go.WideShapes Go.ChangeAt Go.RowKit
set_option maxRecDepth 100000

theorem canonOrder_law (xs : List V) (hl : xs.length = Try.f5.params.toList.length) (ht : ∀ (i : Nat) (t : TypeId) (x : V), Try.f5.params.toList[i]? = some t → xs[i]? = some x → tyV Try.prog 8 t x) :
    VC Try.prog 5 false xs (.bool true) := by
  rw [Try.params5] at hl ht
  match xs, hl with
  | [a, b], _ =>
    obtain ⟨l, rfl, _, h1⟩ := ty_raws (ht 0 _ a rfl rfl)
    obtain ⟨r, rfl, _, h2⟩ := ty_vis (ht 1 _ b rfl rfl)
    exact law5 (fun x hx => (h1 x hx).1.2) h2

set_option maxRecDepth 100000 in
theorem canonOrder_lifted (os : Os) (started : os.Started) (H : Type) (enc : TypeId × Value → H) :
    ReturnsInHanded {} Try.checked os 5 .any (Rows.canonOrderSpec.pre6 enc Try.prog Try.f5 Rows.canonOrderRow.domain false) (Rows.canonOrderSpec.post enc Try.prog Try.f5 false true false false) := by
  refine returnsInHanded_of_change (C := Try.checked) own started (by kernel_rfl) Try.func5
    (ChangeSpec.witness6 (enc := enc) (C := Try.checked) false ⟨#[], #[.slice none 0 0, .slice none 0 0], []⟩ 8 (by kernel_rfl) (by kernel_rfl) (by kernel_rfl) (by kernel_rfl)) ?_
  intro W base args ds gs before hval hW _ _
  exact law_contract (tb := 4) 8 laidOut (by kernel_rfl) (by kernel_rfl) rfl (by kernel_rfl) Try.underlying4 (fun H ds hd => by
    rw [Try.params5] at hd
    match ds, hd with
    | [_, _], _ => rfl) canonOrder_law H enc W base args ds gs before hval hW

theorem canonOrder_holds : Rows.CanonOrderSaid :=
  OpenClaim.holds_of_wide 5 Try.f5 rfl rfl rfl rfl rfl rfl rfl ⟨rfl, rfl, rfl, rfl, rfl⟩ rfl rfl rfl rfl rfl (by kernel_rfl) Try.func5 (by kernel_rfl)
    (of_decide_eq_true (by kernel_rfl)) (by unfold Func.isWrapper; first | (rw [if_pos (by decide +kernel)]; kernel_rfl) | (rw [if_neg (by decide +kernel)]; exact ⟨rfl, rfl⟩))
    (fun os started H enc _ => canonOrder_lifted os started H enc)
#print axioms canonOrder_holds
end Go.Proofs.Ytbmgnmjghhakhaa
