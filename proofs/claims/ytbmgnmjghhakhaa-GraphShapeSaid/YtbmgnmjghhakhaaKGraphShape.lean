/-
  The law GraphShape holds of the given program, for every input.
-/
import Derived.Test.YtbmgnmjghhakhaaRows
import Derived.Test.YtbmgnmjghhakhaaUb
import Derived.Test.YtbmgnmjghhakhaaLa
namespace Go.Proofs.Ytbmgnmjghhakhaa
open Vm Go.ChangeShapes Go.WideShapes Go.ChangeAt Go.RowKit
set_option maxRecDepth 100000
set_option linter.unusedVariables false

theorem graphShape_law (xs : List V) (hl : xs.length = Try.f12.params.toList.length) (ht : ∀ (i : Nat) (t : TypeId) (x : V), Try.f12.params.toList[i]? = some t → xs[i]? = some x → tyV Try.prog 8 t x) :
    VC Try.prog 12 false xs (.bool true) := by
  rw [Try.params12] at hl ht
  match xs, hl with
  | [x0, x1, x2, x3, x4], _ =>
    obtain ⟨l, rfl, _, hl⟩ := ty_raws (ht 0 _ x0 rfl rfl)
    obtain ⟨r, rfl, _, hr⟩ := ty_vis (ht 1 _ x1 rfl rfl)
    obtain ⟨n, rfl, hn⟩ := ty_vi (ht 2 _ x2 rfl rfl)
    obtain ⟨m, rfl, hm⟩ := ty_vi (ht 3 _ x3 rfl rfl)
    obtain ⟨k, rfl, hk⟩ := ty_vi (ht 4 _ x4 rfl rfl)
    exact law8Shape (fun x hx => (hl x hx).1.2) hr hn hm hk

theorem graphShape_lifted (os : Os) (started : os.Started) (H : Type) (enc : TypeId × Value → H) :
    ReturnsInHanded {} Try.checked os 12 .any (Rows.graphShapeSpec.pre6 enc Try.prog Try.f12 Rows.graphShapeRow.domain false) (Rows.graphShapeSpec.post enc Try.prog Try.f12 false true false false) := by
  refine returnsInHanded_of_change (C := Try.checked) own started (by kernel_rfl) Try.func12
    (ChangeSpec.witness6 (enc := enc) (C := Try.checked) false ⟨#[], #[.slice none 0 0, .slice none 0 0, .int .i64 0, .int .i64 0, .int .i64 0], []⟩ 8 (by kernel_rfl) (by kernel_rfl) (by kernel_rfl) (by kernel_rfl)) ?_
  intro W base args ds gs before hval hW _ _
  exact law_contract (tb := 4) 8 laidOut (by kernel_rfl) (by kernel_rfl) rfl (by kernel_rfl) Try.underlying4 (fun H ds hd => by
    rw [Try.params12] at hd
    match ds, hd with
    | [_, _, _, _, _], _ => rfl) graphShape_law H enc W base args ds gs before hval hW

theorem graphShape_holds : Rows.GraphShapeSaid :=
  OpenClaim.holds_of_wide 12 Try.f12 rfl rfl rfl rfl rfl rfl rfl ⟨rfl, rfl, rfl, rfl, rfl⟩ rfl rfl rfl rfl rfl (by kernel_rfl) Try.func12 (by kernel_rfl)
    (of_decide_eq_true (by kernel_rfl)) (by unfold Func.isWrapper; first | (rw [if_pos (by decide +kernel)]; kernel_rfl) | (rw [if_neg (by decide +kernel)]; exact ⟨rfl, rfl⟩))
    (fun os started H enc _ => graphShape_lifted os started H enc)
#print axioms graphShape_holds
end Go.Proofs.Ytbmgnmjghhakhaa
