/-
  Heaps that are made of raw numbers: filled; the whole.
-/
import Derived.Test.YtfplljcicihneaaBf
namespace Vm
open Go Go.Proofs
set_option linter.unusedSimpArgs false
set_option linter.unusedVariables false
set_option maxRecDepth 100000
set_option maxHeartbeats 1000000
def wOk (h : Hp) : Prop := (∀ k, ∀ w ∈ partH h k, U64 w) ∧ ∀ w ∈ h.roots, U64 w
structure BOk (b : Bt) : Prop where
  lay : (layH b.h).fits
  hl : b.here.length = b.g.nodes.length
  ol : b.old.length = b.g.nodes.length
  nn : b.g.nodes.length ≤ 10
  ptr : ∀ n ∈ b.g.nodes, ∀ q ∈ n.ptrs, q < (b.g.nodes.length : Int)
  dat : ∀ n ∈ b.g.nodes, ∀ q ∈ n.data, U64 q
  rts : ∀ q ∈ b.g.roots, q < (b.g.nodes.length : Int)
  rl : b.g.roots.length ≤ 5
  here : ∀ (i : Nat) (p : Pl) (n : Nd), b.here[i]? = some p → b.g.nodes[i]? = some n → p = ⟨0, 0⟩ ∨ ∃ a : Nat, p.at_ = a ∧ (p.part = 1 ∨ p.part = 2) ∧ a + sizN n ≤ (partH b.h p.part).length
  old : ∀ (i : Nat) (p : Pl) (n : Nd), b.old[i]? = some p → b.g.nodes[i]? = some n → p = ⟨0, 0⟩ ∨ ∃ a : Nat, p.at_ = a ∧ (p.part = 3 ∨ p.part = 4) ∧ a + sizN n ≤ (partH b.h p.part).length
  len : ∀ k, (partH b.h k).length ≤ 1000
  words : wOk b.h
theorem partH_len {h h' : Hp} (hl : layH h' = layH h) (k : Int) : (partH h' k).length = (partH h k).length := by
  simp only [layH, Ly.mk.injEq] at hl
  unfold partH
  split
  · omega
  split
  · omega
  split <;> omega
theorem BOk.keep {b : Bt} (hb : BOk b) {h' : Hp} (hl : layH h' = layH b.h) (hw : wOk h') : BOk { b with h := h' } where
  lay := by show (layH h').fits; rw [hl]; exact hb.lay
  hl := hb.hl
  ol := hb.ol
  nn := hb.nn
  ptr := hb.ptr
  dat := hb.dat
  rts := hb.rts
  rl := hb.rl
  here := fun i p n hp hn => by
    rcases hb.here i p n hp hn with h | ⟨a, h1, h2, h3⟩
    · exact .inl h
    · exact .inr ⟨a, h1, h2, by show _ ≤ (partH h' p.part).length; rw [partH_len hl]; exact h3⟩
  old := fun i p n hp hn => by
    rcases hb.old i p n hp hn with h | ⟨a, h1, h2, h3⟩
    · exact .inl h
    · exact .inr ⟨a, h1, h2, by show _ ≤ (partH h' p.part).length; rw [partH_len hl]; exact h3⟩
  len := fun k => by show (partH h' k).length ≤ 1000; rw [partH_len hl]; exact hb.len k
  words := hw
theorem withH_lay {h : Hp} {p : Int} {l : List Int} (hl : l.length = (partH h p).length) : layH (withH h p l) = layH h := by
  unfold withH partH at *
  split
  · rename_i e; rw [if_pos e] at hl; simp [layH, hl]
  rename_i e1
  rw [if_neg e1] at hl
  split
  · rename_i e; rw [if_pos e] at hl; simp [layH, hl]
  rename_i e2
  rw [if_neg e2] at hl
  split
  · rename_i e; rw [if_pos e] at hl; simp [layH, hl]
  · rename_i e3; rw [if_neg e3] at hl; simp [layH, hl]
theorem withH_words {h : Hp} {p : Int} {l : List Int} (hh : wOk h) (hl : ∀ w ∈ l, U64 w) : wOk (withH h p l) := by
  have h1 := hh.1 1
  have h2 := hh.1 2
  have h3 := hh.1 3
  have h4 := hh.1 4
  simp only [partH1, partH2, partH3, partH4] at h1 h2 h3 h4
  have key : ∀ h' : Hp, (∀ w ∈ h'.low, U64 w) → (∀ w ∈ h'.high, U64 w) → (∀ w ∈ h'.old, U64 w) → (∀ w ∈ h'.far, U64 w) → (∀ w ∈ h'.roots, U64 w) → wOk h' := fun h' k1 k2 k3 k4 k5 => by
    refine ⟨fun k => ?_, k5⟩
    unfold partH
    split
    · exact k1
    split
    · exact k2
    split
    · exact k3
    · exact k4
  unfold withH
  split
  · exact key _ hl h2 h3 h4 hh.2
  split
  · exact key _ h1 hl h3 h4 hh.2
  split
  · exact key _ h1 h2 hl h4 hh.2
  · exact key _ h1 h2 h3 hl hh.2
theorem layL_length {b : Bt} {p : Pl} {a : Nat} {n : Nd} {tw : Int} (hf : a + sizN n ≤ (partH b.h p.part).length) : (layL b p a n tw).length = (partH b.h p.part).length := by
  unfold layL
  unfold sizN at *
  simp [slotsB]
  omega
theorem layL_words {b : Bt} {p : Pl} {a : Nat} {n : Nd} {tw : Int} (hw : wOk b.h) (hn : ∀ q ∈ n.data, U64 q) : ∀ w ∈ layL b p a n tw, U64 w := by
  intro w hm
  unfold layL at hm
  simp only [List.mem_append, List.mem_singleton] at hm
  rcases hm with (((hm | hm) | hm) | hm) | hm
  · exact hw.1 _ w (List.mem_of_mem_take hm)
  · subst hm
    have := packW_range ((n.ptrs.length : Int) + n.data.length) n.ptrs.length
    exact ⟨this.1, by omega⟩
  · simp only [slotsB, List.mem_map] at hm
    obtain ⟨i, _, rfl⟩ := hm
    exact slotB_range _ _ _ _
  · exact hn w hm
  · exact hw.1 _ w (List.mem_of_mem_drop hm)
/-- one node's words are laid -/
def fillA (x : Rw) (b : Bt) (i : Nat) (n : Nd) (p : Pl) : Bt := if 0 < p.part then layB b p n (IntKind.i64.wrap (x.slack + i)) else b
def fillO (b : Bt) (n : Nd) (p o : Pl) : Bt := if 0 < o.part ∧ p.part = 0 then layB b o n 0 else b
def fillG (b : Bt) (p o : Pl) : Bt := if 0 < o.part ∧ 0 < p.part then { b with h := withH b.h o.part ((partH b.h o.part).set o.at_.toNat (refB b.h p)) } else b
def fillS (x : Rw) (b : Bt) (i : Nat) : Bt :=
  let n := (b.g.nodes[i]?).getD default
  let p := (b.here[i]?).getD ⟨0, 0⟩
  let o := (b.old[i]?).getD ⟨0, 0⟩
  fillG (fillO (fillA x b i n p) n p o) p o
/-- but for words, b' is as b -/
structure Like (b b' : Bt) : Prop where
  g : b'.g = b.g
  here : b'.here = b.here
  old : b'.old = b.old
  lay : layH b'.h = layH b.h
  words : wOk b'.h
  scan : b'.h.scan = b.h.scan
  cycle : b'.h.cycle = b.h.cycle
theorem Like.ok {b b' : Bt} (hl : Like b b') (hb : BOk b) : BOk b' := by
  obtain ⟨h', g', here', old'⟩ := b'
  obtain ⟨h1, h2, h3, h4, h5, _⟩ := hl
  simp only at h1 h2 h3 h4 h5
  subst h1 h2 h3
  exact hb.keep h4 h5
theorem Like.trans {a b c : Bt} (h : Like a b) (k : Like b c) : Like a c := ⟨k.g.trans h.g, k.here.trans h.here, k.old.trans h.old, k.lay.trans h.lay, k.words, k.scan.trans h.scan, k.cycle.trans h.cycle⟩
theorem withH_scan (h : Hp) (p : Int) (l : List Int) : (withH h p l).scan = h.scan ∧ (withH h p l).cycle = h.cycle := by
  unfold withH
  split
  · exact ⟨rfl, rfl⟩
  split
  · exact ⟨rfl, rfl⟩
  split <;> exact ⟨rfl, rfl⟩
theorem like_with {b : Bt} (hb : BOk b) {p : Int} {l : List Int} (hl : l.length = (partH b.h p).length) (hw : ∀ w ∈ l, U64 w) : Like b { b with h := withH b.h p l } :=
  ⟨rfl, rfl, rfl, withH_lay hl, withH_words hb.words hw, (withH_scan _ _ _).1, (withH_scan _ _ _).2⟩
theorem like_refl {b : Bt} (hb : BOk b) : Like b b := ⟨rfl, rfl, rfl, rfl, hb.words, rfl, rfl⟩
theorem like_lay {b : Bt} (hb : BOk b) {p : Pl} {n : Nd} {tw : Int} {a : Nat} (ha : p.at_ = a) (hf : a + sizN n ≤ (partH b.h p.part).length) (hn : ∀ q ∈ n.data, U64 q) : Like b (layB b p n tw) := by
  unfold layB
  rw [ha, Int.toNat_natCast]
  exact like_with hb (layL_length hf) (layL_words hb.words hn)
theorem like_A {x : Rw} {b : Bt} (hb : BOk b) {i : Nat} {n : Nd} {p : Pl} (hn : b.g.nodes[i]? = some n) (hp : b.here[i]? = some p) : Like b (fillA x b i n p) := by
  unfold fillA
  split
  · rename_i h0
    rcases hb.here i p n hp hn with rfl | ⟨a, h1, h2, h3⟩
    · simp at h0
    · exact like_lay hb h1 h3 (hb.dat n (List.mem_of_getElem? hn))
  · exact like_refl hb
theorem like_O {b : Bt} (hb : BOk b) {i : Nat} {n : Nd} {p o : Pl} (hn : b.g.nodes[i]? = some n) (ho : b.old[i]? = some o) : Like b (fillO b n p o) := by
  unfold fillO
  split
  · rename_i h0
    rcases hb.old i o n ho hn with rfl | ⟨a, h1, h2, h3⟩
    · simp at h0
    · exact like_lay hb h1 h3 (hb.dat n (List.mem_of_getElem? hn))
  · exact like_refl hb
theorem like_G {b : Bt} (hb : BOk b) {p o : Pl} : Like b (fillG b p o) := by
  unfold fillG
  split
  · refine like_with hb (by simp) fun w hw => ?_
    rcases List.mem_or_eq_of_mem_set hw with h | rfl
    · exact hb.words.1 _ w h
    · exact refB_range _ _
  · exact like_refl hb
theorem like_S {x : Rw} {b : Bt} (hb : BOk b) {i : Nat} (hi : i < b.g.nodes.length) : Like b (fillS x b i) := by
  have hn : b.g.nodes[i]? = some b.g.nodes[i] := List.getElem?_eq_getElem hi
  have hp : b.here[i]? = some (b.here[i]'(by rw [hb.hl]; exact hi)) := List.getElem?_eq_getElem _
  have ho : b.old[i]? = some (b.old[i]'(by rw [hb.ol]; exact hi)) := List.getElem?_eq_getElem _
  unfold fillS
  simp only [hn, hp, ho, Option.getD_some]
  have h1 := like_A (x := x) hb hn hp
  have h2 := like_O (p := b.here[i]'(by rw [hb.hl]; exact hi)) (h1.ok hb) (by rw [h1.g]; exact hn) (by rw [h1.old]; exact ho)
  exact (h1.trans h2).trans (like_G (h2.ok (h1.ok hb)))
def fillN (x : Rw) (b : Bt) : Nat → Bt
  | 0 => b
  | i + 1 => fillS x (fillN x b i) i
theorem like_N {x : Rw} {b : Bt} (hb : BOk b) : ∀ i, i ≤ b.g.nodes.length → Like b (fillN x b i)
  | 0, _ => like_refl hb
  | i + 1, hi => by
    have h := like_N (x := x) hb i (by omega)
    exact h.trans (like_S (h.ok hb) (by rw [h.g]; omega))
def fillH (x : Rw) (b : Bt) : Hp :=
  let b' := fillN x b b.g.nodes.length
  { b'.h with roots := b.g.roots.map fun r => if 0 ≤ r then refB b'.h ((b.here[r.toNat]?).getD ⟨0, 0⟩) else 0 }
theorem btV_eq (b : Bt) : V.agg (btC b) = btV b := rfl
theorem fill_vc {x : Rw} (hx : x.ok) {b : Bt} (hb : BOk b) : VC Try.prog 52 false [btV b, rwV x] (hpV (fillH x b)) := by
  refine vc_of_wp Try.func52 follows (by kernel_rfl) c52 rfl ?_
  simp [p52, btC]
  refine wpS_for 5 b.g.nodes.length (fun i => [(2, .m (btC (fillN x b i))), (5, .v (vi i))]) (fun _ => True) (by simp [fillN, btC]) (fun i => by simp) trivial ?_
  rintro i hi -
  have hlk := like_N (x := x) hb i hi
  have hw := wrap_i ((i : Int) + 1) (by have := hb.nn; omega) (by have := hb.nn; omega)
  by_cases h : i < b.g.nodes.length
  · have hb' := hlk.ok hb
    simp only [fillN]
    have hi' : i < (fillN x b i).g.nodes.length := by rw [hlk.g]; exact h
    generalize hbb : fillN x b i = c at *
    have hn : c.g.nodes[i]? = some c.g.nodes[i] := List.getElem?_eq_getElem hi'
    have hp : c.here[i]? = some (c.here[i]'(by rw [hb'.hl]; exact hi')) := List.getElem?_eq_getElem _
    have ho : c.old[i]? = some (c.old[i]'(by rw [hb'.ol]; exact hi')) := List.getElem?_eq_getElem _
    unfold fillS
    simp only [hn, hp, ho, Option.getD_some]
    generalize c.g.nodes[i] = n at *
    generalize c.here[i]'(by rw [hb'.hl]; exact hi') = p at *
    generalize c.old[i]'(by rw [hb'.ol]; exact hi') = o at *
    have hpn : ∀ q ∈ n.ptrs, q < (c.here.length : Int) ∧ q < (c.old.length : Int) := fun q hq => by
      have := hb'.ptr n (List.mem_of_getElem? hn) q hq
      rw [hb'.hl, hb'.ol]; exact ⟨this, this⟩
    have kA := like_A (x := x) hb' hn hp
    have bA := kA.ok hb'
    have kO := like_O (p := p) bA (by rw [kA.g]; exact hn) (by rw [kA.old]; exact ho)
    have bO := kO.ok bA
    have hgl : c.g.nodes.length = b.g.nodes.length := by rw [hlk.g]
    have hge : c.g = b.g := hlk.g
    have hlay : 0 < p.part → VC Try.prog 86 false [btV c, plV p, ndV n, vi (IntKind.i64.wrap (x.slack + i))] (btV (layB c p n (IntKind.i64.wrap (x.slack + i)))) := fun h0 => by
      rcases hb'.here i p n hp hn with rfl | ⟨a, h1, h2, h3⟩
      · simp at h0
      · exact lay_vc hb'.lay h1 (by have := hb'.len p.part; omega) h3 hpn
    have hlayO : 0 < o.part → VC Try.prog 86 false [btV c, plV o, ndV n, vi 0] (btV (layB c o n 0)) := fun h0 => by
      rcases hb'.old i o n ho hn with rfl | ⟨a, h1, h2, h3⟩
      · simp at h0
      · exact lay_vc hb'.lay h1 (by have := hb'.len o.part; omega) h3 hpn
    have hpp : p.part = 0 ∨ 0 < p.part := by
      rcases hb'.here i p n hp hn with rfl | ⟨a, h1, h2, h3⟩
      · exact .inl rfl
      · exact .inr (by omega)
    have hoo : o.part = 0 ∨ 0 < o.part := by
      rcases hb'.old i o n ho hn with rfl | ⟨a, h1, h2, h3⟩
      · exact .inl rfl
      · exact .inr (by omega)
    rcases hpp with hp0 | hp0
    · rcases hoo with ho0 | ho0
      · simp [btC, h, hi', hgl, hn, hp, ho, at_of hn, at_of hp, at_of ho, fillA, fillO, fillG, hp0, ho0, hw]
      · have hne : ¬ 0 < p.part := by omega
        have hlk2 : Like c (layB c o n 0) := by
          have := like_O (p := p) hb' hn ho
          unfold fillO at this
          rwa [if_pos ⟨ho0, hp0⟩] at this
        have hlO := hlayO ho0
        simp [btC, h, hi', hgl, hn, hp, ho, at_of hn, at_of hp, at_of ho, fillA, fillO, fillG, hp0, ho0, hw]
        generalize layB c o n 0 = d at *
        obtain ⟨d1, d2, d3, d4, d5, _, _⟩ := hlk2
        refine callW_of hlO (by simp [btV]) ?_
        simp [btC, d1, d2, d3, hn, hp, ho, at_of hn, at_of hp, at_of ho, hp0, ho0, hw, h]
    · have hne0 : ¬ p.part = 0 := by omega
      have hlk2 : Like c (layB c p n (IntKind.i64.wrap (x.slack + i))) := by
        have := like_A (x := x) hb' hn hp
        unfold fillA at this
        rwa [if_pos hp0] at this
      have hlA := hlay hp0
      have bd := hlk2.ok hb'
      rcases hoo with ho0 | ho0
      · simp [btC, h, hi', hgl, hn, hp, ho, at_of hn, at_of hp, at_of ho, fillA, fillO, fillG, hp0, ho0, hne0, hw]
        generalize layB c p n (IntKind.i64.wrap (x.slack + i)) = d at *
        obtain ⟨d1, d2, d3, d4, d5, _, _⟩ := hlk2
        refine callW_of hlA (by simp [btV]) ?_
        simp [btC, d1, d2, d3, hn, hp, ho, at_of hn, at_of hp, at_of ho, hp0, ho0, hne0, hw, h]
      · simp [btC, h, hi', hgl, hn, hp, ho, at_of hn, at_of hp, at_of ho, fillA, fillO, fillG, hp0, ho0, hne0, hw]
        generalize layB c p n (IntKind.i64.wrap (x.slack + i)) = d at *
        obtain ⟨d1, d2, d3, d4, d5, _, _⟩ := hlk2
        refine callW_of hlA (by simp [btV]) ?_
        simp [btC, d1, d2, d3, hn, hp, ho, at_of hn, at_of hp, at_of ho, hp0, ho0, hne0, hw, h]
        rcases hb'.old i o n ho hn with rfl | ⟨a, h1, h2, h3⟩
        · simp at ho0
        have hdl := bd.len o.part
        have hlim : (partH d.h o.part).length ≤ lim := by simp [lim]; omega
        have hal : a < (partH d.h o.part).length := by
          have := partH_len d4 o.part
          unfold sizN at h3
          omega
        refine callW_of (Part_vc (h := d.h) (n := o.part)) (by simp [hpV]) ?_
        simp [hlim, hp]
        refine callW_of (refB_vc (b := ⟨d.h, c.g, c.here, c.old⟩) bd.lay (p := p)) (by simp) ?_
        simp [h1, hal, ho, at_of ho]
        have hwith := With_vc (h := d.h) (n := o.part) (l := (partH d.h o.part).set a (refB d.h p))
        rw [List.map_set] at hwith
        refine callW_of hwith (by simp [hpV]) ?_
        simp [hw, h, d1, d2, d3]
  · have : i = b.g.nodes.length := by omega
    subst this
    have bd := hlk.ok hb
    unfold fillH
    generalize fillN x b b.g.nodes.length = d at *
    obtain ⟨d1, d2, d3, d4, d5, _, _⟩ := hlk
    simp [btC, d1, d2, d3]
    refine wpS_for 13 b.g.roots.length (fun k => [(12, .v (.sl ((b.g.roots.take k).map fun r => vu (if 0 ≤ r then refB d.h ((b.here[r.toNat]?).getD ⟨0, 0⟩) else 0)))), (13, .v (vi k))]) (fun _ => True) (by simp) (fun i => by simp) trivial ?_
    rintro k hk -
    have hrl := hb.rl
    have hwk := wrap_i ((k : Int) + 1) (by omega) (by omega)
    by_cases hkl : k < b.g.roots.length
    · have hr : b.g.roots[k]? = some b.g.roots[k] := List.getElem?_eq_getElem hkl
      have hrn := hb.rts _ (List.getElem_mem hkl)
      generalize b.g.roots[k] = r at *
      have htk : b.g.roots.take (k + 1) = b.g.roots.take k ++ [r] := by rw [List.take_add_one, hr]; rfl
      have hlim : min k b.g.roots.length + 1 ≤ lim := by simp [lim]; omega
      by_cases h0 : 0 ≤ r
      · obtain ⟨q, rfl⟩ := Int.eq_ofNat_of_zero_le h0
        have hq : b.here[q]? = some (b.here[q]'(by rw [hb.hl]; omega)) := List.getElem?_eq_getElem _
        generalize b.here[q]'(by rw [hb.hl]; omega) = p at *
        simp [hkl, hr, at_of hr, hq, at_of hq]
        refine callW_of (refB_vc (b := ⟨d.h, b.g, b.here, b.old⟩) bd.lay (p := p)) (by simp) ?_
        simp [hwk, hlim, hkl]
        rw [List.take_add_one, List.getElem?_map, hr]
        simp [hq]
      · simp [hkl, hr, at_of hr, h0, hwk, hlim, htk, hkl]
    · have : k = b.g.roots.length := by omega
      subst this
      simp [hpV]
end Vm
