/-
  What a deed tells and leaves.
-/
import Derived.Test.YtbmgnmjghhakhaaDb
import Derived.Test.YtbmgnmjghhakhaaDg
namespace Vm
open Go Go.Proofs Go.RowKit
set_option maxHeartbeats 1000000
set_option maxRecDepth 100000
set_option linter.unusedSimpArgs false
set_option linter.unusedVariables false
variable {w w' : World} {B b br rc : Nat} {g : Gr} {a : Ac} {nv rv : Value} {xs : List Value}
theorem Wk.root (h : Wk B w b g a nv (.slice (some ⟨br, 0, none⟩) g.roots.length rc) xs) {r : Int} (hr : isRt g r = true) :
    0 ≤ r ∧ r < (g.roots.length : Int) ∧ w.cell? ⟨br, r.toNat, none⟩ = some (.int .i64 (rt g r)) ∧ w.frozen? ⟨br, r.toNat, none⟩ = false := by
  obtain ⟨h1, h2⟩ := isRt_iff.1 hr
  have hl : r.toNat < g.roots.length := by omega
  refine ⟨h1, h2, ?_, h.own.roots.frozenAt _⟩
  rw [h.own.roots.cellAt _ (by omega)]
  simp [nums, rt, hl]
theorem Wk.slot (h : Wk B w b g a nv rv xs) (hr : right g = true) {s : Int} (hs : isRt g s = true) : rt g s = -1 ∨ ∃ (x : Nat) (n : Nd) (bn nc : Nat) (pa da : Option Addr) (pc dc : Nat), rt g s = (x : Int) ∧ g.nodes[x]? = some n ∧ x < g.nodes.length ∧
    nv = .slice (some ⟨bn, 0, none⟩) g.nodes.length nc ∧ xs[x * 2]? = some (.slice pa n.ptrs.length pc) ∧ xs[x * 2 + 1]? = some (.slice da n.data.length dc) ∧ w.cell? ⟨bn, x * 2, none⟩ = some (.slice pa n.ptrs.length pc) ∧ w.cell? ⟨bn, x * 2 + 1, none⟩ = some (.slice da n.data.length dc) ∧
    w.ownsRow B 3 1 (.slice pa n.ptrs.length pc) n.ptrs.length (nums .i64 n.ptrs) ∧ w.ownsRow B 28 1 (.slice da n.data.length dc) n.data.length (nums .u64 n.data) := by
  obtain ⟨k, hk, hkl, hrt, h0, h1⟩ := rt_in hr hs
  by_cases hx : rt g s = -1
  · exact .inl hx
  · obtain ⟨x, hxe⟩ := Int.eq_ofNat_of_zero_le (show 0 ≤ rt g s by omega)
    have hxl : x < g.nodes.length := by omega
    obtain ⟨bn, nc, hnv, _, _⟩ := h.own.nodes.form (by omega)
    subst hnv
    obtain ⟨hl, ha⟩ := h.own.inner.at
    obtain ⟨pv, dv, q1, q2, q3, q4⟩ := ha x _ (List.getElem?_eq_getElem hxl)
    obtain ⟨pa, pc, rfl⟩ := own_form q3
    obtain ⟨da, dc, rfl⟩ := own_form q4
    refine .inr ⟨x, _, bn, nc, pa, da, pc, dc, hxe, List.getElem?_eq_getElem hxl, hxl, rfl, q1, q2, ?_, ?_, q3, q4⟩
    · rw [h.own.nodes.cellAt _ (by omega), q1]
    · rw [h.own.nodes.cellAt _ (by omega), q2]
def deedF (k : Int) : FuncId := if k = 1 then 63 else if k = 2 then 64 else if k = 3 then 65 else if k = 4 then 66 else if k = 5 then 67 else if k = 6 then 68 else 69
def DeedPost (B : Nat) (w : World) (b : Nat) (g : Gr) (a : Ac) (e : Ending) (w' : World) : Prop :=
  e = .returned (.tuple #[.int .u64 (doR g a).1, .int .i64 (doR g a).2.2]) ∧ Below B w w' ∧ ((doR g a).2.2 = 0 → ∃ nv' rv' xs', w'.cell? ⟨b, 0, none⟩ = some nv' ∧ w'.cell? ⟨b, 1, none⟩ = some rv' ∧ GHas B w' (doR g a).2.1 nv' rv' xs')
theorem deed_err {c : Int} (hd : Dr w w') (h : doR g a = (0, noGr, c)) (hc : c ≠ 0) : DeedPost B w b g a (.returned (.tuple #[.int .u64 0, .int .i64 c])) w' := by
  refine ⟨by rw [h], hd.below B, fun h0 => absurd (by rw [h] at h0; exact h0) hc⟩
theorem deed_ok {v : Int} {g' : Gr} (hW : Wk B w b g a nv rv xs) (h : doR g a = (v, g', 0)) (hh : GHas B w' g' nv rv xs) (hb : Below B w w') (hk : w'.heap[b]? = w.heap[b]?) : DeedPost B w b g a (.returned (.tuple #[.int .u64 v, .int .i64 0])) w' := by
  refine ⟨by rw [h], hb, fun _ => ⟨nv, rv, xs, ?_, ?_, by rw [h]; exact hh⟩⟩
  · rw [cell_of_row _ _ _ _ _ _ (hk.trans hW.blk)]; rfl
  · rw [cell_of_row _ _ _ _ _ _ (hk.trans hW.blk)]; rfl
theorem doR_slot (hr : right g = true) (hn : namesR g a = true) (hk : a.kind = 2 ∨ a.kind = 3 ∨ a.kind = 4 ∨ a.kind = 5) : doR g a = slotR g a := by
  rcases hk with h | h | h | h <;> simp [doR, hr, hn, h]
theorem argOk {i : Int} {m : Nat} (h : ¬ (0 ≤ i ∧ i < (m : Int))) : decide (i < 0) = true ∨ (decide (i < 0) = false ∧ decide ((m : Int) ≤ i) = true) := by
  by_cases h0 : i < 0
  · exact .inl (by simp [h0])
  · exact .inr ⟨by simp; omega, by simp; omega⟩
theorem deed_load (hW : Wk B w b g a nv rv xs) (hB : B ≤ w.heap.size) (hg : g.sm) (hr : right g = true) (hn : namesR g a = true) (hk : a.kind = 2) : Calls Try.prog 64 #[.pointer (some ⟨b, 0, none⟩)] w (DeedPost B w b g a) := by
  obtain ⟨hg1, hg2, hg3⟩ := hg
  have hs : isRt g a.s = true := by unfold namesR at hn; rw [hk] at hn; simp at hn; simp [hn]
  obtain ⟨s1, s2⟩ := isRt_iff.1 hs
  have hrr : isRt g a.r = true := by unfold namesR at hn; rw [hk] at hn; simp at hn; simp [hn]
  obtain ⟨br, rc, hrv, _, _⟩ := hW.own.roots.form (by omega)
  subst hrv
  obtain ⟨_, _, hsc, _⟩ := hW.root hs
  obtain ⟨r1, r2, hrc, hrf⟩ := hW.root hrr
  have c1 : w.cell? ⟨b, 1, none⟩ = some (.slice (some ⟨br, 0, none⟩) g.roots.length rc) := by rw [cell_of_row _ _ _ _ _ _ hW.blk]; rfl
  have c3 : w.cell? ⟨b, 3, none⟩ = some (.int .i64 a.r) := by rw [cell_of_row _ _ _ _ _ _ hW.blk]; rfl
  have c4 : w.cell? ⟨b, 4, none⟩ = some (.int .i64 a.s) := by rw [cell_of_row _ _ _ _ _ _ hW.blk]; rfl
  have c5 : w.cell? ⟨b, 5, none⟩ = some (.int .i64 a.i) := by rw [cell_of_row _ _ _ _ _ _ hW.blk]; rfl
  have c8 : w.cell? ⟨b, 8, none⟩ = some (.int .u64 a.v) := by rw [cell_of_row _ _ _ _ _ _ hW.blk]; rfl
  have hdo := doR_slot hr hn (by omega)
  rcases hW.slot hr hs with hx | ⟨x, n, bn, nc, pa, da, pc, dc, hx, hnx, hxl, rfl, q1, q2, q3, q4, q5, q6⟩
  · refine (load_none w b a.s (rt g a.s) br g.roots.length rc s1 s2 (by omega) hx c1 c4 hsc).mono ?_
    rintro e w' ⟨rfl, hd⟩
    exact deed_err hd (by rw [hdo]; simp [slotR, hx]) (by omega)
  · have c0 : w.cell? ⟨b, 0, none⟩ = some (.slice (some ⟨bn, 0, none⟩) g.nodes.length nc) := by rw [cell_of_row _ _ _ _ _ _ hW.blk]; rfl
    have hm := hg3 n (List.mem_of_getElem? hnx)
    have hxx : 0 ≤ rt g a.s ∧ rt g a.s < (g.nodes.length : Int) := by omega
    have hxt : (rt g a.s).toNat = x := by omega
    by_cases hi : 0 ≤ a.i ∧ a.i < (n.ptrs.length : Int)
    · obtain ⟨bp, mc, hpv, _, _⟩ := q5.form (by omega)
      cases hpv
      have hil : a.i.toNat < n.ptrs.length := by omega
      have hcy : w.cell? ⟨bp, a.i.toNat, none⟩ = some (.int .i64 n.ptrs[a.i.toNat]) := by
        rw [q5.cellAt _ (by omega)]; simp [nums, hil]
      have hfy : w.frozen? ⟨bp, a.i.toNat, none⟩ = false := q5.frozenAt _
      refine (load_walk w b a.s a.i (rt g a.s) br g.roots.length rc bn g.nodes.length nc bp n.ptrs.length pc s1 s2 (by omega) hxx.1 hxx.2 (by omega) hi.1 hi.2 (by omega) c0 c1 c4 c5 hsc (by rw [hxt]; exact q3) a.r n.ptrs[a.i.toNat] _ r1 r2 c3 hcy hrc hrf).mono ?_
      rintro e w' ⟨rfl, hd⟩
      obtain ⟨h1, h2, h3⟩ := rooted_has hW hd
      exact deed_ok hW (by rw [hdo]; simp [slotR, hx, hnx, hk, hil, show ¬ (a.i < 0) by omega, show ¬ ((n.ptrs.length : Int) ≤ a.i) by omega]) h1 h2 h3
    · refine (load_arg w b a.s a.i (rt g a.s) br g.roots.length rc bn g.nodes.length nc n.ptrs.length pc pa s1 s2 (by omega) hxx.1 hxx.2 (by omega) (argOk hi) (by omega) c0 c1 c4 c5 hsc (by rw [hxt]; exact q3)).mono ?_
      rintro e w' ⟨rfl, hd⟩
      exact deed_err hd (by rw [hdo]; simp [slotR, hx, hnx, hk]; omega) (by omega)
theorem deed_get (hW : Wk B w b g a nv rv xs) (hB : B ≤ w.heap.size) (hg : g.sm) (hr : right g = true) (hn : namesR g a = true) (hk : a.kind = 3) : Calls Try.prog 65 #[.pointer (some ⟨b, 0, none⟩)] w (DeedPost B w b g a) := by
  obtain ⟨hg1, hg2, hg3⟩ := hg
  have hs : isRt g a.s = true := by unfold namesR at hn; rw [hk] at hn; simp at hn; simp [hn]
  obtain ⟨s1, s2⟩ := isRt_iff.1 hs
  obtain ⟨br, rc, hrv, _, _⟩ := hW.own.roots.form (by omega)
  subst hrv
  obtain ⟨_, _, hsc, _⟩ := hW.root hs
  have c1 : w.cell? ⟨b, 1, none⟩ = some (.slice (some ⟨br, 0, none⟩) g.roots.length rc) := by rw [cell_of_row _ _ _ _ _ _ hW.blk]; rfl
  have c3 : w.cell? ⟨b, 3, none⟩ = some (.int .i64 a.r) := by rw [cell_of_row _ _ _ _ _ _ hW.blk]; rfl
  have c4 : w.cell? ⟨b, 4, none⟩ = some (.int .i64 a.s) := by rw [cell_of_row _ _ _ _ _ _ hW.blk]; rfl
  have c5 : w.cell? ⟨b, 5, none⟩ = some (.int .i64 a.i) := by rw [cell_of_row _ _ _ _ _ _ hW.blk]; rfl
  have c8 : w.cell? ⟨b, 8, none⟩ = some (.int .u64 a.v) := by rw [cell_of_row _ _ _ _ _ _ hW.blk]; rfl
  have hdo := doR_slot hr hn (by omega)
  rcases hW.slot hr hs with hx | ⟨x, n, bn, nc, pa, da, pc, dc, hx, hnx, hxl, rfl, q1, q2, q3, q4, q5, q6⟩
  · refine (get_none w b a.s (rt g a.s) br g.roots.length rc s1 s2 (by omega) hx c1 c4 hsc).mono ?_
    rintro e w' ⟨rfl, hd⟩
    exact deed_err hd (by rw [hdo]; simp [slotR, hx]) (by omega)
  · have c0 : w.cell? ⟨b, 0, none⟩ = some (.slice (some ⟨bn, 0, none⟩) g.nodes.length nc) := by rw [cell_of_row _ _ _ _ _ _ hW.blk]; rfl
    have hm := hg3 n (List.mem_of_getElem? hnx)
    have hxx : 0 ≤ rt g a.s ∧ rt g a.s < (g.nodes.length : Int) := by omega
    have hxt : (rt g a.s).toNat = x := by omega
    by_cases hi : 0 ≤ a.i ∧ a.i < (n.data.length : Int)
    · obtain ⟨bp, mc, hpv, _, _⟩ := q6.form (by omega)
      cases hpv
      have hil : a.i.toNat < n.data.length := by omega
      have hcy : w.cell? ⟨bp, a.i.toNat, none⟩ = some (.int .u64 n.data[a.i.toNat]) := by
        rw [q6.cellAt _ (by omega)]; simp [nums, hil]
      have hfy : w.frozen? ⟨bp, a.i.toNat, none⟩ = false := q6.frozenAt _
      refine (get_walk w b a.s a.i (rt g a.s) br g.roots.length rc bn g.nodes.length nc bp n.data.length dc s1 s2 (by omega) hxx.1 hxx.2 (by omega) hi.1 hi.2 (by omega) c0 c1 c4 c5 hsc (by rw [hxt]; exact q4) n.data[a.i.toNat] hcy).mono ?_
      rintro e w' ⟨rfl, hd⟩
      exact deed_ok hW (by rw [hdo]; simp [slotR, hx, hnx, hk, hil, show ¬ (a.i < 0) by omega, show ¬ ((n.data.length : Int) ≤ a.i) by omega]) (hW.own.has.dr hd) (hd.below B) (by rw [hd.heap])
    · refine (get_arg w b a.s a.i (rt g a.s) br g.roots.length rc bn g.nodes.length nc n.data.length dc da s1 s2 (by omega) hxx.1 hxx.2 (by omega) (argOk hi) (by omega) c0 c1 c4 c5 hsc (by rw [hxt]; exact q4)).mono ?_
      rintro e w' ⟨rfl, hd⟩
      exact deed_err hd (by rw [hdo]; simp [slotR, hx, hnx, hk]; omega) (by omega)
theorem deed_store (hW : Wk B w b g a nv rv xs) (hB : B ≤ w.heap.size) (hg : g.sm) (hr : right g = true) (hn : namesR g a = true) (hk : a.kind = 4) : Calls Try.prog 66 #[.pointer (some ⟨b, 0, none⟩)] w (DeedPost B w b g a) := by
  obtain ⟨hg1, hg2, hg3⟩ := hg
  have hs : isRt g a.s = true := by unfold namesR at hn; rw [hk] at hn; simp at hn; simp [hn]
  obtain ⟨s1, s2⟩ := isRt_iff.1 hs
  have hrr : isRt g a.r = true := by unfold namesR at hn; rw [hk] at hn; simp at hn; simp [hn]
  obtain ⟨br, rc, hrv, _, _⟩ := hW.own.roots.form (by omega)
  subst hrv
  obtain ⟨_, _, hsc, _⟩ := hW.root hs
  obtain ⟨r1, r2, hrc, hrf⟩ := hW.root hrr
  have c1 : w.cell? ⟨b, 1, none⟩ = some (.slice (some ⟨br, 0, none⟩) g.roots.length rc) := by rw [cell_of_row _ _ _ _ _ _ hW.blk]; rfl
  have c3 : w.cell? ⟨b, 3, none⟩ = some (.int .i64 a.r) := by rw [cell_of_row _ _ _ _ _ _ hW.blk]; rfl
  have c4 : w.cell? ⟨b, 4, none⟩ = some (.int .i64 a.s) := by rw [cell_of_row _ _ _ _ _ _ hW.blk]; rfl
  have c5 : w.cell? ⟨b, 5, none⟩ = some (.int .i64 a.i) := by rw [cell_of_row _ _ _ _ _ _ hW.blk]; rfl
  have c8 : w.cell? ⟨b, 8, none⟩ = some (.int .u64 a.v) := by rw [cell_of_row _ _ _ _ _ _ hW.blk]; rfl
  have hdo := doR_slot hr hn (by omega)
  rcases hW.slot hr hs with hx | ⟨x, n, bn, nc, pa, da, pc, dc, hx, hnx, hxl, rfl, q1, q2, q3, q4, q5, q6⟩
  · refine (store_none w b a.s (rt g a.s) br g.roots.length rc s1 s2 (by omega) hx c1 c4 hsc).mono ?_
    rintro e w' ⟨rfl, hd⟩
    exact deed_err hd (by rw [hdo]; simp [slotR, hx]) (by omega)
  · have c0 : w.cell? ⟨b, 0, none⟩ = some (.slice (some ⟨bn, 0, none⟩) g.nodes.length nc) := by rw [cell_of_row _ _ _ _ _ _ hW.blk]; rfl
    have hm := hg3 n (List.mem_of_getElem? hnx)
    have hxx : 0 ≤ rt g a.s ∧ rt g a.s < (g.nodes.length : Int) := by omega
    have hxt : (rt g a.s).toNat = x := by omega
    by_cases hi : 0 ≤ a.i ∧ a.i < (n.ptrs.length : Int)
    · obtain ⟨bp, mc, hpv, _, _⟩ := q5.form (by omega)
      cases hpv
      have hil : a.i.toNat < n.ptrs.length := by omega
      have hcy : w.cell? ⟨bp, a.i.toNat, none⟩ = some (.int .i64 n.ptrs[a.i.toNat]) := by
        rw [q5.cellAt _ (by omega)]; simp [nums, hil]
      have hfy : w.frozen? ⟨bp, a.i.toNat, none⟩ = false := q5.frozenAt _
      refine (store_walk w b a.s a.i (rt g a.s) br g.roots.length rc bn g.nodes.length nc bp n.ptrs.length pc s1 s2 (by omega) hxx.1 hxx.2 (by omega) hi.1 hi.2 (by omega) c0 c1 c4 c5 hsc (by rw [hxt]; exact q3) a.r (rt g a.r) _ r1 r2 c3 hrc hcy hfy).mono ?_
      rintro e w' ⟨rfl, hd⟩
      obtain ⟨h1, h2, h3⟩ := turned_ptrs hW hnx q1 hd
      exact deed_ok hW (by rw [hdo]; simp [slotR, hx, hnx, hk, hil, show ¬ (a.i < 0) by omega, show ¬ ((n.ptrs.length : Int) ≤ a.i) by omega]) h1 h2 h3
    · refine (store_arg w b a.s a.i (rt g a.s) br g.roots.length rc bn g.nodes.length nc n.ptrs.length pc pa s1 s2 (by omega) hxx.1 hxx.2 (by omega) (argOk hi) (by omega) c0 c1 c4 c5 hsc (by rw [hxt]; exact q3)).mono ?_
      rintro e w' ⟨rfl, hd⟩
      exact deed_err hd (by rw [hdo]; simp [slotR, hx, hnx, hk]; omega) (by omega)
theorem deed_set (hW : Wk B w b g a nv rv xs) (hB : B ≤ w.heap.size) (hg : g.sm) (hr : right g = true) (hn : namesR g a = true) (hk : a.kind = 5) : Calls Try.prog 67 #[.pointer (some ⟨b, 0, none⟩)] w (DeedPost B w b g a) := by
  obtain ⟨hg1, hg2, hg3⟩ := hg
  have hs : isRt g a.s = true := by unfold namesR at hn; rw [hk] at hn; simp at hn; simp [hn]
  obtain ⟨s1, s2⟩ := isRt_iff.1 hs
  obtain ⟨br, rc, hrv, _, _⟩ := hW.own.roots.form (by omega)
  subst hrv
  obtain ⟨_, _, hsc, _⟩ := hW.root hs
  have c1 : w.cell? ⟨b, 1, none⟩ = some (.slice (some ⟨br, 0, none⟩) g.roots.length rc) := by rw [cell_of_row _ _ _ _ _ _ hW.blk]; rfl
  have c3 : w.cell? ⟨b, 3, none⟩ = some (.int .i64 a.r) := by rw [cell_of_row _ _ _ _ _ _ hW.blk]; rfl
  have c4 : w.cell? ⟨b, 4, none⟩ = some (.int .i64 a.s) := by rw [cell_of_row _ _ _ _ _ _ hW.blk]; rfl
  have c5 : w.cell? ⟨b, 5, none⟩ = some (.int .i64 a.i) := by rw [cell_of_row _ _ _ _ _ _ hW.blk]; rfl
  have c8 : w.cell? ⟨b, 8, none⟩ = some (.int .u64 a.v) := by rw [cell_of_row _ _ _ _ _ _ hW.blk]; rfl
  have hdo := doR_slot hr hn (by omega)
  rcases hW.slot hr hs with hx | ⟨x, n, bn, nc, pa, da, pc, dc, hx, hnx, hxl, rfl, q1, q2, q3, q4, q5, q6⟩
  · refine (set_none w b a.s (rt g a.s) br g.roots.length rc s1 s2 (by omega) hx c1 c4 hsc).mono ?_
    rintro e w' ⟨rfl, hd⟩
    exact deed_err hd (by rw [hdo]; simp [slotR, hx]) (by omega)
  · have c0 : w.cell? ⟨b, 0, none⟩ = some (.slice (some ⟨bn, 0, none⟩) g.nodes.length nc) := by rw [cell_of_row _ _ _ _ _ _ hW.blk]; rfl
    have hm := hg3 n (List.mem_of_getElem? hnx)
    have hxx : 0 ≤ rt g a.s ∧ rt g a.s < (g.nodes.length : Int) := by omega
    have hxt : (rt g a.s).toNat = x := by omega
    by_cases hi : 0 ≤ a.i ∧ a.i < (n.data.length : Int)
    · obtain ⟨bp, mc, hpv, _, _⟩ := q6.form (by omega)
      cases hpv
      have hil : a.i.toNat < n.data.length := by omega
      have hcy : w.cell? ⟨bp, a.i.toNat, none⟩ = some (.int .u64 n.data[a.i.toNat]) := by
        rw [q6.cellAt _ (by omega)]; simp [nums, hil]
      have hfy : w.frozen? ⟨bp, a.i.toNat, none⟩ = false := q6.frozenAt _
      refine (set_walk w b a.s a.i (rt g a.s) br g.roots.length rc bn g.nodes.length nc bp n.data.length dc s1 s2 (by omega) hxx.1 hxx.2 (by omega) hi.1 hi.2 (by omega) c0 c1 c4 c5 hsc (by rw [hxt]; exact q4) a.v _ c8 hcy hfy).mono ?_
      rintro e w' ⟨rfl, hd⟩
      obtain ⟨h1, h2, h3⟩ := turned_data hW hnx q2 hd
      exact deed_ok hW (by rw [hdo]; simp [slotR, hx, hnx, hk, hil, show ¬ (a.i < 0) by omega, show ¬ ((n.data.length : Int) ≤ a.i) by omega]) h1 h2 h3
    · refine (set_arg w b a.s a.i (rt g a.s) br g.roots.length rc bn g.nodes.length nc n.data.length dc da s1 s2 (by omega) hxx.1 hxx.2 (by omega) (argOk hi) (by omega) c0 c1 c4 c5 hsc (by rw [hxt]; exact q4)).mono ?_
      rintro e w' ⟨rfl, hd⟩
      exact deed_err hd (by rw [hdo]; simp [slotR, hx, hnx, hk]; omega) (by omega)
theorem deed_assign (hW : Wk B w b g a nv rv xs) (hB : B ≤ w.heap.size) (hg : g.sm) (hr : right g = true) (hn : namesR g a = true) (hk : a.kind = 6) : Calls Try.prog 68 #[.pointer (some ⟨b, 0, none⟩)] w (DeedPost B w b g a) := by
  obtain ⟨hg1, hg2, hg3⟩ := hg
  have hrr : isRt g a.r = true := by unfold namesR at hn; rw [hk] at hn; simp at hn; simp [hn]
  have hs : isRt g a.s = true := by unfold namesR at hn; rw [hk] at hn; simp at hn; simp [hn]
  obtain ⟨s1, s2⟩ := isRt_iff.1 hs
  obtain ⟨br, rc, hrv, _, _⟩ := hW.own.roots.form (by omega)
  subst hrv
  obtain ⟨_, _, hsc, _⟩ := hW.root hs
  obtain ⟨r1, r2, hrc, hrf⟩ := hW.root hrr
  have c1 : w.cell? ⟨b, 1, none⟩ = some (.slice (some ⟨br, 0, none⟩) g.roots.length rc) := by rw [cell_of_row _ _ _ _ _ _ hW.blk]; rfl
  have c3 : w.cell? ⟨b, 3, none⟩ = some (.int .i64 a.r) := by rw [cell_of_row _ _ _ _ _ _ hW.blk]; rfl
  have c4 : w.cell? ⟨b, 4, none⟩ = some (.int .i64 a.s) := by rw [cell_of_row _ _ _ _ _ _ hW.blk]; rfl
  refine (assign_walk w b a.r a.s (rt g a.s) br g.roots.length rc _ r1 r2 s1 s2 (by omega) c1 c3 c4 hsc hrc hrf).mono ?_
  rintro e w' ⟨rfl, hd⟩
  obtain ⟨h1, h2, h3⟩ := rooted_has hW hd
  exact deed_ok hW (by simp [doR, hr, hn, hk]) h1 h2 h3
theorem deed_drop (hW : Wk B w b g a nv rv xs) (hB : B ≤ w.heap.size) (hg : g.sm) (hr : right g = true) (hn : namesR g a = true) (hk : a.kind = 7) : Calls Try.prog 69 #[.pointer (some ⟨b, 0, none⟩)] w (DeedPost B w b g a) := by
  obtain ⟨hg1, hg2, hg3⟩ := hg
  have hrr : isRt g a.r = true := by unfold namesR at hn; rw [hk] at hn; simp at hn; simp [hn]
  obtain ⟨s1, s2⟩ := isRt_iff.1 hrr
  obtain ⟨br, rc, hrv, _, _⟩ := hW.own.roots.form (by omega)
  subst hrv
  obtain ⟨r1, r2, hrc, hrf⟩ := hW.root hrr
  have c1 : w.cell? ⟨b, 1, none⟩ = some (.slice (some ⟨br, 0, none⟩) g.roots.length rc) := by rw [cell_of_row _ _ _ _ _ _ hW.blk]; rfl
  have c3 : w.cell? ⟨b, 3, none⟩ = some (.int .i64 a.r) := by rw [cell_of_row _ _ _ _ _ _ hW.blk]; rfl
  refine (drop_walk w b a.r br g.roots.length rc _ r1 r2 (by omega) c1 c3 hrc hrf).mono ?_
  rintro e w' ⟨rfl, hd⟩
  obtain ⟨h1, h2, h3⟩ := rooted_has hW hd
  exact deed_ok hW (by simp [doR, hr, hn, hk]) h1 h2 h3
theorem deed_fresh (hW : Wk B w b g a nv rv xs) (hB : B ≤ w.heap.size) (hg : g.sm) (hr : right g = true) (hn : namesR g a = true) (hk : a.kind = 1) : Calls Try.prog 63 #[.pointer (some ⟨b, 0, none⟩)] w (DeedPost B w b g a) := by
  obtain ⟨hg1, hg2, hg3⟩ := hg
  have hrr : isRt g a.r = true := by unfold namesR at hn; rw [hk] at hn; simp at hn; simp [hn]
  obtain ⟨s1, s2⟩ := isRt_iff.1 hrr
  refine (fresh_walk w B b g a nv rv xs hW hB s1 s2 hg1 hg2).mono ?_
  rintro e w' (⟨hs, rfl, hb⟩ | ⟨hs, rfl, hb, nv', pv, dv, h0, h1, hh⟩)
  · have hd : doR g a = (0, noGr, 1) := by simp [doR, hr, hn, hk, hs]
    refine ⟨by rw [hd], hb.mono hB, fun h0 => by rw [hd] at h0; simp at h0⟩
  · have hd : doR g a = (0, ⟨g.nodes ++ [freshNd a.size a.ptrs], g.roots.set a.r.toNat g.nodes.length⟩, 0) := by simp [doR, hr, hn, hk, hs]
    exact ⟨by rw [hd], hb, fun _ => ⟨nv', rv, _, h0, h1, by rw [hd]; exact hh⟩⟩
theorem names_kind (hn : namesR g a = true) : a.kind = 1 ∨ a.kind = 2 ∨ a.kind = 3 ∨ a.kind = 4 ∨ a.kind = 5 ∨ a.kind = 6 ∨ a.kind = 7 := by
  unfold namesR at hn
  split at hn
  · omega
  · split at hn
    · omega
    · split at hn
      · omega
      · cases hn
theorem deed_calls (hW : Wk B w b g a nv rv xs) (hB : B ≤ w.heap.size) (hg : g.sm) (hr : right g = true) (hn : namesR g a = true) : Calls Try.prog (deedF a.kind) #[.pointer (some ⟨b, 0, none⟩)] w (DeedPost B w b g a) := by
  rcases names_kind hn with h | h | h | h | h | h | h
  all_goals
    rw [h]
    first
      | exact deed_fresh hW hB hg hr hn h
      | exact deed_load hW hB hg hr hn h
      | exact deed_get hW hB hg hr hn h
      | exact deed_store hW hB hg hr hn h
      | exact deed_set hW hB hg hr hn h
      | exact deed_assign hW hB hg hr hn h
      | exact deed_drop hW hB hg hr hn h
end Vm
