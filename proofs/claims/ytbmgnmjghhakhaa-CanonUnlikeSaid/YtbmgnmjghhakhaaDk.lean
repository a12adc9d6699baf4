/-
  graph.Do's contract.
-/
import Derived.Test.YtbmgnmjghhakhaaDj
namespace Vm
open Go Go.Proofs Go.RowKit
set_option maxHeartbeats 1000000
set_option maxRecDepth 100000
set_option linter.unusedSimpArgs false
set_option linter.unusedVariables false
theorem do_vc {g : Gr} {a : Ac} (hg : g.sm) : VC Try.prog 35 false [grV g, acV a] (doV (doR g a)) := by
  refine ⟨by kernel_rfl, fun w G vs hG hsz hvs => ?_⟩
  have r0 := hvs 0 _ rfl
  have r1 := hvs 1 _ rfl
  obtain ⟨⟨l⟩⟩ := vs
  · simp at hsz
  rename_i v0 l
  cases l with
  | nil => simp at hsz
  | cons v1 l =>
    cases l with
    | cons _ _ => simp at hsz
    | nil =>
      simp at r0 r1
      obtain ⟨a0, c0, rv0, rfl, hr0, hsrc⟩ := Rd.src r0 hG hg
      have := Rd.actf r1
      subst this
      refine (do_walk w g a a0 c0 rv0 hg (Lib.hid ?_) (Lib.hid ?_)).mono ?_
      · intro W hW hs
        refine ((right_vc hg).2 W G _ (fun b hb => Nat.lt_of_lt_of_le (hG b hb) hs) (by simp) ?_).mono ?_
        · intro i x hx
          match i, hx with
          | 0, hx => cases hx; exact r0.keep (fun b hb => hW b (hG b hb)) fun _ h => h
        · rintro e W' ⟨v, rfl, hb, hv⟩
          cases hv
          exact ⟨rfl, hb⟩
      · intro W hW hs
        refine own_walk W G (fun b hb => Nat.lt_of_lt_of_le (hG b hb) hs) g a0 g.nodes.length c0 rv0 rfl hg.1 hg.2.1 ?_ (hr0.keep (fun b hb => hW b (hG b hb)) fun _ h => h)
        intro hpos
        obtain ⟨bs, os, ha, hx⟩ := hsrc hpos
        refine ⟨bs, os, ha, fun k x hk => ?_⟩
        obtain ⟨hl, pa, pc, da, dc, hbs, q1, q2, q3, q4⟩ := hx k x hk
        exact ⟨hl, pa, pc, da, dc, by omega, (World.cell?_of_block (hW bs hbs)).trans q1, (World.cell?_of_block (hW bs hbs)).trans q2, q3.keep (fun b hb => hW b (hG b hb)) fun _ h => h, q4.keep (fun b hb => hW b (hG b hb)) fun _ h => h⟩
      · rintro e w' ⟨v, rfl, hb, hr⟩
        exact ⟨v, rfl, hb, hr.mono fun b hb => .inr hb⟩
end Vm
