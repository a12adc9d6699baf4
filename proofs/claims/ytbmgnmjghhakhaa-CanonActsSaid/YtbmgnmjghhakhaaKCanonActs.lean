/-
  The law CanonActs holds of the given program, for every input.
-/
import Derived.Test.YtbmgnmjghhakhaaRows
import Derived.Test.YtbmgnmjghhakhaaUb
import Derived.Test.YtbmgnmjghhakhaaUc
import Derived.Test.YtbmgnmjghhakhaaLg
namespace Go.Proofs.Ytbmgnmjghhakhaa
open Vm Go.ChangeShapes Go.WideShapes Go.ChangeAt Go.RowKit
set_option maxRecDepth 100000
set_option linter.unusedVariables false

theorem canonActs_law (xs : List V) (hl : xs.length = Try.f13.params.toList.length) (ht : ∀ (i : Nat) (t : TypeId) (x : V), Try.f13.params.toList[i]? = some t → xs[i]? = some x → tyV Try.prog 8 t x) :
    VC Try.prog 13 false xs (.bool true) := by
  rw [Try.params13] at hl ht
  match xs, hl with
  | [x0, x1, x2, x3, x4], _ =>
    obtain ⟨l, rfl, _, hl⟩ := ty_raws (ht 0 _ x0 rfl rfl)
    obtain ⟨r, rfl, _, hr⟩ := ty_vis (ht 1 _ x1 rfl rfl)
    obtain ⟨b, rfl, hb⟩ := ty_vi (ht 2 _ x2 rfl rfl)
    obtain ⟨w, rfl, _, hw⟩ := ty_i5s (ht 3 _ x3 rfl rfl)
    obtain ⟨d, rfl, _, hd⟩ := ty_vus (ht 4 _ x4 rfl rfl)
    exact law9Acts (fun x hx => (hl x hx).1.2) hr hb hw

theorem canonActs_lifted (os : Os) (started : os.Started) (H : Type) (enc : TypeId × Value → H) :
    ReturnsInHanded {} Try.checked os 13 .any (Rows.canonActsSpec.pre6 enc Try.prog Try.f13 Rows.canonActsRow.domain false) (Rows.canonActsSpec.post enc Try.prog Try.f13 false true false false) := by
  refine returnsInHanded_of_change (C := Try.checked) own started (by kernel_rfl) Try.func13
    (ChangeSpec.witness6 (enc := enc) (C := Try.checked) false ⟨#[], #[.slice none 0 0, .slice none 0 0, .int .i64 0, .slice none 0 0, .slice none 0 0], []⟩ 8 (by kernel_rfl) (by kernel_rfl) (by kernel_rfl) (by kernel_rfl)) ?_
  intro W base args ds gs before hval hW _ _
  exact law_contract (tb := 4) 8 laidOut (by kernel_rfl) (by kernel_rfl) rfl (by kernel_rfl) Try.underlying4 (fun H ds hd => by
    rw [Try.params13] at hd
    match ds, hd with
    | [_, _, _, _, _], _ => rfl) canonActs_law H enc W base args ds gs before hval hW

theorem canonActs_holds : Rows.CanonActsSaid :=
  OpenClaim.holds_of_wide 13 Try.f13 rfl rfl rfl rfl rfl rfl rfl ⟨rfl, rfl, rfl, rfl, rfl⟩ rfl rfl rfl rfl rfl (by kernel_rfl) Try.func13 (by kernel_rfl)
    (of_decide_eq_true (by kernel_rfl)) (by unfold Func.isWrapper; first | (rw [if_pos (by decide +kernel)]; kernel_rfl) | (rw [if_neg (by decide +kernel)]; exact ⟨rfl, rfl⟩))
    (fun os started H enc _ => canonActs_lifted os started H enc)
#print axioms canonActs_holds
end Go.Proofs.Ytbmgnmjghhakhaa
