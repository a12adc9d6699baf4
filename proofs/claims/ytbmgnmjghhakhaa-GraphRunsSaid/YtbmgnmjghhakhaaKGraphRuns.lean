/-
  The law GraphRuns holds of the given program, for every input.
-/
import Derived.Test.YtbmgnmjghhakhaaRows
import Derived.Test.YtbmgnmjghhakhaaUb
import Derived.Test.YtbmgnmjghhakhaaUc
import Derived.Test.YtbmgnmjghhakhaaLd
namespace Go.Proofs.Ytbmgnmjghhakhaa
open Vm Go.ChangeShapes Go.WideShapes Go.ChangeAt Go.RowKit
set_option maxRecDepth 100000
set_option linter.unusedVariables false

theorem graphRuns_law (xs : List V) (hl : xs.length = Try.f11.params.toList.length) (ht : ∀ (i : Nat) (t : TypeId) (x : V), Try.f11.params.toList[i]? = some t → xs[i]? = some x → tyV Try.prog 8 t x) :
    VC Try.prog 11 false xs (.bool true) := by
  rw [Try.params11] at hl ht
  match xs, hl with
  | [x0, x1, x2, x3, x4, x5], _ =>
    obtain ⟨l, rfl, _, hl⟩ := ty_raws (ht 0 _ x0 rfl rfl)
    obtain ⟨r, rfl, _, hr⟩ := ty_vis (ht 1 _ x1 rfl rfl)
    obtain ⟨n, rfl, hn⟩ := ty_vi (ht 2 _ x2 rfl rfl)
    obtain ⟨k, rfl, hk⟩ := ty_vi (ht 3 _ x3 rfl rfl)
    obtain ⟨v, rfl, hv⟩ := ty_vu (ht 4 _ x4 rfl rfl)
    obtain ⟨w, rfl, _, hw⟩ := ty_i5s (ht 5 _ x5 rfl rfl)
    exact law8Runs (fun x hx => (hl x hx).1.2) hr hn hk hw

theorem graphRuns_lifted (os : Os) (started : os.Started) (H : Type) (enc : TypeId × Value → H) :
    ReturnsInHanded {} Try.checked os 11 .any (Rows.graphRunsSpec.pre6 enc Try.prog Try.f11 Rows.graphRunsRow.domain false) (Rows.graphRunsSpec.post enc Try.prog Try.f11 false true false false) := by
  refine returnsInHanded_of_change (C := Try.checked) own started (by kernel_rfl) Try.func11
    (ChangeSpec.witness6 (enc := enc) (C := Try.checked) false ⟨#[], #[.slice none 0 0, .slice none 0 0, .int .i64 0, .int .i64 0, .int .u64 0, .slice none 0 0], []⟩ 8 (by kernel_rfl) (by kernel_rfl) (by kernel_rfl) (by kernel_rfl)) ?_
  intro W base args ds gs before hval hW _ _
  exact law_contract (tb := 4) 8 laidOut (by kernel_rfl) (by kernel_rfl) rfl (by kernel_rfl) Try.underlying4 (fun H ds hd => by
    rw [Try.params11] at hd
    match ds, hd with
    | [_, _, _, _, _, _], _ => rfl) graphRuns_law H enc W base args ds gs before hval hW

theorem graphRuns_holds : Rows.GraphRunsSaid :=
  OpenClaim.holds_of_wide 11 Try.f11 rfl rfl rfl rfl rfl rfl rfl ⟨rfl, rfl, rfl, rfl, rfl⟩ rfl rfl rfl rfl rfl (by kernel_rfl) Try.func11 (by kernel_rfl)
    (of_decide_eq_true (by kernel_rfl)) (by unfold Func.isWrapper; first | (rw [if_pos (by decide +kernel)]; kernel_rfl) | (rw [if_neg (by decide +kernel)]; exact ⟨rfl, rfl⟩))
    (fun os started H enc _ => graphRuns_lifted os started H enc)
#print axioms graphRuns_holds
end Go.Proofs.Ytbmgnmjghhakhaa
