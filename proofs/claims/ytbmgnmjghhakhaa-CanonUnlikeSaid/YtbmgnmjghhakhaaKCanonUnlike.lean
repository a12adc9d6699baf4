/-
  The law CanonUnlike holds of the given program, for every input.
-/
import Derived.Test.YtbmgnmjghhakhaaRows
import Derived.Test.YtbmgnmjghhakhaaUb
import Derived.Test.YtbmgnmjghhakhaaLh
namespace Go.Proofs.Ytbmgnmjghhakhaa
open Vm Go.ChangeShapes Go.WideShapes Go.ChangeAt Go.RowKit
set_option maxRecDepth 100000
set_option linter.unusedVariables false

theorem canonUnlike_law (xs : List V) (hl : xs.length = Try.f14.params.toList.length) (ht : ∀ (i : Nat) (t : TypeId) (x : V), Try.f14.params.toList[i]? = some t → xs[i]? = some x → tyV Try.prog 8 t x) :
    VC Try.prog 14 false xs (.bool true) := by
  rw [Try.params14] at hl ht
  match xs, hl with
  | [x0, x1, x2, x3, x4], _ =>
    obtain ⟨l, rfl, _, hl⟩ := ty_raws (ht 0 _ x0 rfl rfl)
    obtain ⟨r, rfl, _, hr⟩ := ty_vis (ht 1 _ x1 rfl rfl)
    obtain ⟨n, rfl, hn⟩ := ty_vi (ht 2 _ x2 rfl rfl)
    obtain ⟨k, rfl, hk⟩ := ty_vi (ht 3 _ x3 rfl rfl)
    obtain ⟨v, rfl, hv⟩ := ty_vu (ht 4 _ x4 rfl rfl)
    exact law9Unlike (fun x hx => (hl x hx).1.2) hr hn hk

theorem canonUnlike_lifted (os : Os) (started : os.Started) (H : Type) (enc : TypeId × Value → H) :
    ReturnsInHanded {} Try.checked os 14 .any (Rows.canonUnlikeSpec.pre6 enc Try.prog Try.f14 Rows.canonUnlikeRow.domain false) (Rows.canonUnlikeSpec.post enc Try.prog Try.f14 false true false false) := by
  refine returnsInHanded_of_change (C := Try.checked) own started (by kernel_rfl) Try.func14
    (ChangeSpec.witness6 (enc := enc) (C := Try.checked) false ⟨#[], #[.slice none 0 0, .slice none 0 0, .int .i64 0, .int .i64 0, .int .u64 0], []⟩ 8 (by kernel_rfl) (by kernel_rfl) (by kernel_rfl) (by kernel_rfl)) ?_
  intro W base args ds gs before hval hW _ _
  exact law_contract (tb := 4) 8 laidOut (by kernel_rfl) (by kernel_rfl) rfl (by kernel_rfl) Try.underlying4 (fun H ds hd => by
    rw [Try.params14] at hd
    match ds, hd with
    | [_, _, _, _, _], _ => rfl) canonUnlike_law H enc W base args ds gs before hval hW

theorem canonUnlike_holds : Rows.CanonUnlikeSaid :=
  OpenClaim.holds_of_wide 14 Try.f14 rfl rfl rfl rfl rfl rfl rfl ⟨rfl, rfl, rfl, rfl, rfl⟩ rfl rfl rfl rfl rfl (by kernel_rfl) Try.func14 (by kernel_rfl)
    (of_decide_eq_true (by kernel_rfl)) (by unfold Func.isWrapper; first | (rw [if_pos (by decide +kernel)]; kernel_rfl) | (rw [if_neg (by decide +kernel)]; exact ⟨rfl, rfl⟩))
    (fun os started H enc _ => canonUnlike_lifted os started H enc)
#print axioms canonUnlike_holds
end Go.Proofs.Ytbmgnmjghhakhaa
