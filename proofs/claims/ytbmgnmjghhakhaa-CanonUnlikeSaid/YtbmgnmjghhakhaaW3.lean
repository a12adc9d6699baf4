/-
  The reference's own graphs: Right, Words, names, Do; acts.
-/
import Derived.Test.YtbmgnmjghhakhaaW2
import Derived.Test.YtbmgnmjghhakhaaGf
import Derived.Test.YtbmgnmjghhakhaaGg
namespace Vm
open Go Go.Proofs
set_option linter.unusedSimpArgs false
set_option linter.unusedVariables false
set_option maxRecDepth 100000
theorem in_vc {p : Int} {n : Nat} : VC Try.prog 53 false [vi p, vi n] (.bool (inR n p)) := by
  refine vc_of_wp Try.func53 follows (by kernel_rfl) c53 rfl ?_
  by_cases h1 : -1 ≤ p
  · by_cases h2 : p < n <;> simp [p53, inR, h1, h2]
  · simp [p53, inR, h1]
theorem refRight_vc {g : Gr} (hg : g.sm) : VC Try.prog 32 false [grV g] (.bool (right g)) := by
  obtain ⟨hg1, hg2, hg3⟩ := hg
  refine vc_of_wp Try.func32 follows (by kernel_rfl) c32 rfl ?_
  simp [-List.all_eq_true, -List.all_eq_false, p32]
  split
  · rename_i h; simp [-List.all_eq_true, -List.all_eq_false, right, show ¬ g.roots.length ≤ 16 by omega]
  · rename_i h
    refine wpS_loop (fun t => ∃ i : Nat, i ≤ g.roots.length ∧ (g.roots.take i).all (inR g.nodes.length) = true ∧ t = [.v (grV g), .m [.sl (g.nodes.map ndV), .sl (g.roots.map vi)], .v (.bool false), .v (.bool false), .v (vi i)]) (fun t => match get t 4 with | .v (.int _ n) => g.roots.length - n.toNat | _ => 0) ?_ ?_
    · exact ⟨0, by simp, by simp, by simp [h]⟩
    · rintro t ⟨i, hi, hall, rfl⟩
      by_cases hlt : i < g.roots.length
      · have hx : g.roots[i]? = some g.roots[i] := List.getElem?_eq_getElem hlt
        have hw := wrap_i ((i : Int) + 1) (by omega) (by omega)
        simp [-List.all_eq_true, -List.all_eq_false, hlt]
        refine callW_of in_vc (by simp) ?_
        cases hb : inR g.nodes.length g.roots[i]
        · simp [-List.all_eq_true, -List.all_eq_false, right, all_false_at hx hb]
        · simp [-List.all_eq_true, -List.all_eq_false, hw]
          exact ⟨⟨i + 1, by omega, by rw [all_take_succ hx, hall, hb]; rfl, by simp⟩, by omega⟩
      · have : i = g.roots.length := by omega
        subst this
        rw [List.take_length] at hall
        simp [-List.all_eq_true, -List.all_eq_false]
        refine wpS_loop (fun t => ∃ (i : Nat) (x8 : SV), i ≤ g.nodes.length ∧ (g.nodes.take i).all (nodeOk g.nodes.length) = true ∧ t = [.v (grV g), .m [.sl (g.nodes.map ndV), .sl (g.roots.map vi)], .v (.bool false), .v (.bool false), .v (vi g.roots.length), .v (.bool false), .no, .v (vi i)]) (fun t => match get t 7 with | .v (.int _ n) => g.nodes.length - n.toNat | _ => 0) ?_ ?_
        · exact ⟨0, .no, by simp, by simp, by simp [h]⟩
        · rintro t ⟨i, x8, hi, hall2, rfl⟩
          by_cases hlt : i < g.nodes.length
          · have hx : g.nodes[i]? = some g.nodes[i] := List.getElem?_eq_getElem hlt
            obtain ⟨h1, h2⟩ := hg3 _ (List.getElem_mem hlt)
            have hw := wrap_i ((i : Int) + 1) (by omega) (by omega)
            simp [-List.all_eq_true, -List.all_eq_false, hlt]
            generalize g.nodes[i] = x at *
            have hno : nodeOk g.nodes.length x = false → right g = false := fun h0 => by simp [-List.all_eq_true, -List.all_eq_false, right, all_false_at hx h0]
            have hws := wrap_i ((x.ptrs.length : Int) + x.data.length) (by omega) (by omega)
            rw [hws]
            split
            · exact hno (by simp [-List.all_eq_true, -List.all_eq_false, nodeOk]; intro; omega)
            · rename_i hsz
              refine wpS_loop (fun t => ∃ k : Nat, k ≤ x.ptrs.length ∧ (x.ptrs.take k).all (inR g.nodes.length) = true ∧ t = [.v (grV g), .m [.sl (g.nodes.map ndV), .sl (g.roots.map vi)], .v (.bool false), .v (.bool false), .v (vi g.roots.length), .v (.bool false), .no, .v (vi i), .v (.bool true), .m [.sl (x.ptrs.map vi), .sl (x.data.map vu)], .v (.bool false), .v (vi k)]) (fun t => match get t 11 with | .v (.int _ n) => x.ptrs.length - n.toNat | _ => 0) ?_ ?_
              · exact ⟨0, by simp, by simp, by simp [hsz]⟩
              · rintro t ⟨k, hk, hall3, rfl⟩
                by_cases hkt : k < x.ptrs.length
                · have hp : x.ptrs[k]? = some x.ptrs[k] := List.getElem?_eq_getElem hkt
                  have hwk := wrap_i ((k : Int) + 1) (by omega) (by omega)
                  simp [-List.all_eq_true, -List.all_eq_false, hkt]
                  refine callW_of in_vc (by simp) ?_
                  cases hb : inR g.nodes.length x.ptrs[k]
                  · simp [-List.all_eq_true, -List.all_eq_false]
                    exact hno (by simp [-List.all_eq_true, -List.all_eq_false, nodeOk, all_false_at hp hb])
                  · simp [-List.all_eq_true, -List.all_eq_false, hwk]
                    exact ⟨⟨k + 1, by omega, by rw [all_take_succ hp, hall3, hb]; rfl, by simp⟩, by omega⟩
                · have : k = x.ptrs.length := by omega
                  subst this
                  rw [List.take_length] at hall3
                  simp [-List.all_eq_true, -List.all_eq_false, hw]
                  refine ⟨⟨i + 1, by omega, ?_, by simp⟩, by omega⟩
                  rw [all_take_succ hx, hall2]
                  simp [-List.all_eq_true, -List.all_eq_false, nodeOk, hall3]
                  omega
          · have : i = g.nodes.length := by omega
            subst this
            rw [List.take_length] at hall2
            simp [-List.all_eq_true, -List.all_eq_false, right, hall, hall2]
            omega
theorem refWords_vc {g : Gr} (hg : g.sm) : VC Try.prog 33 false [grV g] (vi (words g)) := by
  refine vc_of_wp Try.func33 follows (by kernel_rfl) c33 rfl ?_
  simp [p33]
  refine callW_of (refRight_vc hg) (by simp) ?_
  cases hr : right g
  · simp [words, hr]
  · obtain ⟨hg1, hg2, hg3⟩ := hg
    simp
    refine wpS_loop (fun t => ∃ i : Nat, i ≤ g.nodes.length ∧ t = [.v (grV g), .m [.sl (g.nodes.map ndV), .sl (g.roots.map vi)], .v (vi 0), .v (.bool true), .v (.bool false), .v (vi (wsum (g.nodes.take i) : Nat)), .v (vi i)]) (fun t => match get t 6 with | .v (.int _ n) => g.nodes.length - n.toNat | _ => 0) ?_ ?_
    · exact ⟨0, by simp, by simp [wsum]⟩
    · rintro t ⟨i, hi, rfl⟩
      by_cases h : i < g.nodes.length
      · have hx : g.nodes[i]? = some g.nodes[i] := List.getElem?_eq_getElem h
        obtain ⟨h1, h2⟩ := hg3 _ (List.getElem_mem h)
        have hs := wsum_succ hx
        have hle := wsum_le hg3 (i + 1)
        have hle2 : g.nodes.length * 200001 ≤ 100000 * 200001 := Nat.mul_le_mul_right _ hg1
        simp [h]
        generalize g.nodes[i] = x at *
        have hw := wrap_i ((i : Int) + 1) (by omega) (by omega)
        unfold ndW at hs
        have hw1 := wrap_i ((wsum (g.nodes.take i) : Int) + 1) (by omega) (by omega)
        have hw2 := wrap_i ((wsum (g.nodes.take i) : Int) + 1 + x.ptrs.length) (by omega) (by omega)
        have hw3 := wrap_i ((wsum (g.nodes.take i) : Int) + 1 + x.ptrs.length + x.data.length) (by omega) (by omega)
        simp [hw, hw1, hw2, hw3]
        exact ⟨⟨i + 1, by omega, by rw [hs]; omega, by simp⟩, by omega⟩
      · have : i = g.nodes.length := by omega
        subst this
        simp [words, hr]
/-! ### Acts -/
structure Ac where
  kind : Int
  r : Int
  s : Int
  i : Int
  size : Int
  ptrs : Int
  v : Int
  deriving DecidableEq, Inhabited
def acV (a : Ac) : V := .agg [vi a.kind, vi a.r, vi a.s, vi a.i, vi a.size, vi a.ptrs, vu a.v]
@[simp] theorem szV_acV (a : Ac) : szV (acV a) 7 = some (acV a) := rfl
@[simp] theorem fldV_acV0 (a : Ac) : fldV (acV a) 0 = some (vi a.kind) := rfl
@[simp] theorem fldV_acV1 (a : Ac) : fldV (acV a) 1 = some (vi a.r) := rfl
@[simp] theorem fldV_acV2 (a : Ac) : fldV (acV a) 2 = some (vi a.s) := rfl
@[simp] theorem fldV_acV3 (a : Ac) : fldV (acV a) 3 = some (vi a.i) := rfl
@[simp] theorem fldV_acV4 (a : Ac) : fldV (acV a) 4 = some (vi a.size) := rfl
@[simp] theorem fldV_acV5 (a : Ac) : fldV (acV a) 5 = some (vi a.ptrs) := rfl
@[simp] theorem fldV_acV6 (a : Ac) : fldV (acV a) 6 = some (vu a.v) := rfl
@[simp] theorem acV_cells (a : Ac) : (acV a).cells = [vi a.kind, vi a.r, vi a.s, vi a.i, vi a.size, vi a.ptrs, vu a.v] := rfl
def isRt (g : Gr) (r : Int) : Bool := decide (0 ≤ r) && decide (r < g.roots.length)
def namesR (g : Gr) (a : Ac) : Bool :=
  if a.kind = 1 ∨ a.kind = 7 then isRt g a.r else if a.kind = 3 ∨ a.kind = 5 then isRt g a.s else if a.kind = 2 ∨ a.kind = 4 ∨ a.kind = 6 then isRt g a.r && isRt g a.s else false
def shapeOk (size ptrs : Int) : Bool := decide (0 ≤ size) && decide (size ≤ 255) && decide (0 ≤ ptrs) && decide (ptrs ≤ size)
def rt (g : Gr) (s : Int) : Int := (g.roots[s.toNat]?).getD (-1)
def rooted (g : Gr) (r x : Int) : Gr := ⟨g.nodes, g.roots.set r.toNat x⟩
def turned (g : Gr) (i : Int) (n : Nd) : Gr := ⟨g.nodes.set i.toNat n, g.roots⟩
def freshNd (size ptrs : Int) : Nd := ⟨List.replicate ptrs.toNat (-1), List.replicate (size - ptrs).toNat 0⟩
def slotR (g : Gr) (a : Ac) : Int × Gr × Int :=
  let at_ := rt g a.s
  if at_ < 0 then (0, noGr, 6) else
  let n := (g.nodes[at_.toNat]?).getD default
  let many : Nat := if a.kind = 3 ∨ a.kind = 5 then n.data.length else n.ptrs.length
  if a.i < 0 ∨ (many : Int) ≤ a.i then (0, noGr, 1) else
  if a.kind = 2 then (0, rooted g a.r ((n.ptrs[a.i.toNat]?).getD 0), 0) else
  if a.kind = 3 then ((n.data[a.i.toNat]?).getD 0, g, 0) else
  if a.kind = 4 then (0, turned g at_ ⟨n.ptrs.set a.i.toNat (rt g a.r), n.data⟩, 0) else
  (0, turned g at_ ⟨n.ptrs, n.data.set a.i.toNat a.v⟩, 0)
def doR (g : Gr) (a : Ac) : Int × Gr × Int :=
  if right g && namesR g a then
    if a.kind = 1 then (if shapeOk a.size a.ptrs then (0, ⟨g.nodes ++ [freshNd a.size a.ptrs], g.roots.set a.r.toNat g.nodes.length⟩, 0) else (0, noGr, 1))
    else if a.kind = 6 then (0, rooted g a.r (rt g a.s), 0)
    else if a.kind = 7 then (0, rooted g a.r (-1), 0)
    else slotR g a
  else (0, noGr, 1)
def doV (x : Int × Gr × Int) : V := .tup [vu x.1, grV x.2.1, vi x.2.2]

theorem ref5Right_vc {s p : Int} : VC Try.prog 38 false [.agg [vi s, vi p]] (.bool (shapeOk s p)) := by
  refine vc_of_wp Try.func38 follows (by kernel_rfl) c38 rfl ?_
  by_cases h1 : 0 ≤ s <;> by_cases h2 : s ≤ 255 <;> by_cases h3 : 0 ≤ p <;> by_cases h4 : p ≤ s <;> simp [p38, shapeOk, h1, h2, h3, h4]
theorem names_vc {g : Gr} {a : Ac} : VC Try.prog 37 false [grV g, acV a] (.bool (namesR g a)) := by
  refine vc_of_wp Try.func37 follows (by kernel_rfl) c37 rfl ?_
  obtain ⟨k, r, s, i, z, p, v⟩ := a
  by_cases h1 : 0 ≤ r <;> by_cases h2 : r < g.roots.length <;> by_cases h3 : 0 ≤ s <;> by_cases h4 : s < g.roots.length <;> simp [p37, namesR, isRt, h1, h2, h3, h4]
  all_goals
    by_cases k1 : k = 1
    · simp [k1]
    by_cases k7 : k = 7
    · simp [k7]
    by_cases k3 : k = 3
    · simp [k3]
    by_cases k5 : k = 5
    · simp [k5]
    by_cases k2 : k = 2
    · simp [k2]
    by_cases k4 : k = 4
    · simp [k4]
    by_cases k6 : k = 6
    · simp [k6]
    simp [k1, k2, k3, k4, k5, k6, k7]
theorem isRt_iff {g : Gr} {r : Int} : isRt g r = true ↔ 0 ≤ r ∧ r < g.roots.length := by simp [isRt]
theorem rooted_vc {g : Gr} {r x : Int} (hr : isRt g r = true) (hg : g.roots.length ≤ 100000) : VC Try.prog 39 false [grV g, vi r, vi x] (grV (rooted g r x)) := by
  refine vc_of_wp Try.func39 follows (by kernel_rfl) c39 rfl ?_
  obtain ⟨h1, h2⟩ := isRt_iff.1 hr
  obtain ⟨k, rfl⟩ := Int.eq_ofNat_of_zero_le h1
  have hk : k < g.roots.length := by omega
  have hl : g.roots.length ≤ lim := by simp [lim]; omega
  simp [p39, hk, hl]
  simp [grV, rooted, List.map_set, V.put, setCells]
theorem turned_vc {g : Gr} {i : Int} {n : Nd} (hi : 0 ≤ i ∧ i < g.nodes.length) (hg : g.nodes.length ≤ 100000) : VC Try.prog 57 false [grV g, vi i, ndV n] (grV (turned g i n)) := by
  refine vc_of_wp Try.func57 follows (by kernel_rfl) c57 rfl ?_
  obtain ⟨h1, h2⟩ := hi
  obtain ⟨k, rfl⟩ := Int.eq_ofNat_of_zero_le h1
  have hk : k < g.nodes.length := by omega
  have hl : g.nodes.length ≤ lim := by simp [lim]; omega
  simp [p57, hk, hl]
  simp [grV, turned, List.map_set, V.put, setCells, ndV]
theorem shapeOk_iff {s p : Int} : shapeOk s p = true ↔ 0 ≤ s ∧ s ≤ 255 ∧ 0 ≤ p ∧ p ≤ s := by simp [shapeOk, and_assoc]
theorem fresh_vc {s p : Int} (h : shapeOk s p = true) : VC Try.prog 40 false [.agg [vi s, vi p]] (ndV (freshNd s p)) := by
  refine vc_of_wp Try.func40 follows (by kernel_rfl) c40 rfl ?_
  obtain ⟨h1, h2, h3, h4⟩ := shapeOk_iff.1 h
  obtain ⟨q, rfl⟩ := Int.eq_ofNat_of_zero_le h3
  obtain ⟨d, hd⟩ := Int.eq_ofNat_of_zero_le (show 0 ≤ s - q by omega)
  have hw := wrap_i (d : Int) (by omega) (by omega)
  have hl : d ≤ lim := by simp [lim]; omega
  simp [p40, hw, hd, hl]
  refine wpS_loop (fun t => ∃ i : Nat, i ≤ q ∧ t = [.v (.agg [vi s, vi q]), .m [vi s, vi q], .m [.sl [], .sl []], .m [.sl (List.replicate i (vi (-1))), .sl (List.replicate d (vu 0))], .v (vi i)]) (fun t => match get t 4 with | .v (.int _ n) => q - n.toNat | _ => 0) ?_ ?_
  · exact ⟨0, by simp, by simp⟩
  · rintro t ⟨i, hi, rfl⟩
    have hwi := wrap_i ((i : Int) + 1) (by omega) (by omega)
    by_cases hlt : i < q
    · simp [hlt, hwi]
      exact ⟨by simp [lim]; omega, ⟨i + 1, by omega, by simp [List.replicate_succ'], by simp⟩, by omega⟩
    · have : i = q := by omega
      subst this
      simp [freshNd, ndV, hd]
theorem rt_in {g : Gr} (hr : right g = true) {s : Int} (hs : isRt g s = true) : ∃ k : Nat, s = k ∧ ∃ h : k < g.roots.length, rt g s = g.roots[k] ∧ -1 ≤ g.roots[k] ∧ g.roots[k] < g.nodes.length := by
  obtain ⟨h1, h2⟩ := isRt_iff.1 hs
  obtain ⟨k, rfl⟩ := Int.eq_ofNat_of_zero_le h1
  have hk : k < g.roots.length := by omega
  exact ⟨k, rfl, hk, by simp [rt, hk], right_roots hr _ (List.getElem_mem hk)⟩
theorem slot_vc {g : Gr} {a : Ac} (hg : g.sm) (hr : right g = true) (hn : namesR g a = true) (hk : a.kind = 2 ∨ a.kind = 3 ∨ a.kind = 4 ∨ a.kind = 5) : VC Try.prog 41 false [grV g, acV a] (doV (slotR g a)) := by
  refine vc_of_wp Try.func41 follows (by kernel_rfl) c41 rfl ?_
  have hs : isRt g a.s = true := by
    unfold namesR at hn
    rcases hk with h | h | h | h <;> rw [h] at hn <;> simp at hn <;> simp [hn]
  obtain ⟨s, hse, hsl, hsr, hs0, hs1⟩ := rt_in hr hs
  obtain ⟨hg1, hg2, hg3⟩ := hg
  have hlim : ∀ n : Nat, n ≤ 100000 → n ≤ lim := fun n h => by simp [lim]; omega
  have hat : rt g a.s = rt g a.s := rfl
  simp [p41, hse, hsl]
  by_cases hneg : g.roots[s] < 0
  · simp [hneg, slotR, hsr, doV, noGr, grV]
  · obtain ⟨k, hke⟩ := Int.eq_ofNat_of_zero_le (show 0 ≤ g.roots[s] by omega)
    have hkl : k < g.nodes.length := by omega
    obtain ⟨hp, hd⟩ := hg3 _ (List.getElem_mem hkl)
    have hsr' : rt g a.s = (k : Int) := by rw [hsr, hke]
    have hn0 : (g.nodes[(k : Int).toNat]?).getD default = g.nodes[k] := by simp [hkl]
    unfold slotR
    simp only [hsr', hn0]
    simp only [show ¬ (k : Int) < 0 by omega, if_false]
    simp [hneg, hke, hkl]
    have hnode : ∀ n : Nd, ndV n = .agg [.sl (n.ptrs.map vi), .sl (n.data.map vu)] := fun _ => rfl
    rcases hk with h | h | h | h
    · have hrr : isRt g a.r = true := by unfold namesR at hn; rw [h] at hn; simp at hn; simp [hn]
      by_cases hi : a.i < 0
      · simp [h, hi, doV, noGr, grV]
      · obtain ⟨j, hj⟩ := Int.eq_ofNat_of_zero_le (show 0 ≤ a.i by omega)
        by_cases hjl : j < g.nodes[k].ptrs.length
        · have hjn : ¬ (g.nodes[k].ptrs.length ≤ j) := by omega
          simp [h, hj, hjl, hjn]
          refine callW_of (rooted_vc hrr hg2) (by simp) ?_
          simp [doV]
          rfl
        · simp [h, hj, Nat.le_of_not_lt hjl, doV, noGr, grV]
    · by_cases hi : a.i < 0
      · simp [h, hi, doV, noGr, grV]
      · obtain ⟨j, hj⟩ := Int.eq_ofNat_of_zero_le (show 0 ≤ a.i by omega)
        by_cases hjl : j < g.nodes[k].data.length
        · have hjn : ¬ (g.nodes[k].data.length ≤ j) := by omega
          simp [h, hj, hjl, hjn, doV]
          simp [grV]
        · simp [h, hj, Nat.le_of_not_lt hjl, doV, noGr, grV]
    · have hrr : isRt g a.r = true := by unfold namesR at hn; rw [h] at hn; simp at hn; simp [hn]
      obtain ⟨r, hre, hrl, hrr', _⟩ := rt_in hr hrr
      by_cases hi : a.i < 0
      · simp [h, hi, doV, noGr, grV]
      · obtain ⟨j, hj⟩ := Int.eq_ofNat_of_zero_le (show 0 ≤ a.i by omega)
        by_cases hjl : j < g.nodes[k].ptrs.length
        · have hjn : ¬ (g.nodes[k].ptrs.length ≤ j) := by omega
          have ht := turned_vc (g := g) (i := (k : Int)) (n := ⟨g.nodes[k].ptrs.set j g.roots[r], g.nodes[k].data⟩) ⟨by omega, by omega⟩ hg1
          simp [ndV, List.map_set] at ht
          simp [h, hj, hjl, hjn, hre, hrl, hlim _ hp, V.put, setCells]
          refine callW_of ht (by simp) ?_
          rw [hre] at hrr'
          simp [doV, hrr']
          rfl
        · simp [h, hj, Nat.le_of_not_lt hjl, doV, noGr, grV]
    · by_cases hi : a.i < 0
      · simp [h, hi, doV, noGr, grV]
      · obtain ⟨j, hj⟩ := Int.eq_ofNat_of_zero_le (show 0 ≤ a.i by omega)
        by_cases hjl : j < g.nodes[k].data.length
        · have hjn : ¬ (g.nodes[k].data.length ≤ j) := by omega
          have ht := turned_vc (g := g) (i := (k : Int)) (n := ⟨g.nodes[k].ptrs, g.nodes[k].data.set j a.v⟩) ⟨by omega, by omega⟩ hg1
          simp [ndV, List.map_set] at ht
          simp [h, hj, hjl, hjn, hlim _ hd, V.put, setCells]
          refine callW_of ht (by simp) ?_
          simp [doV]
          rfl
        · simp [h, hj, Nat.le_of_not_lt hjl, doV, noGr, grV]
theorem refDo_vc {g : Gr} {a : Ac} (hg : g.sm) : VC Try.prog 18 false [grV g, acV a] (doV (doR g a)) := by
  refine vc_of_wp Try.func18 follows (by kernel_rfl) c18 rfl ?_
  have hgr : ∀ g : Gr, V.agg [.sl (g.nodes.map ndV), .sl (g.roots.map vi)] = grV g := fun _ => rfl
  have hac : V.agg [vi a.kind, vi a.r, vi a.s, vi a.i, vi a.size, vi a.ptrs, vu a.v] = acV a := rfl
  simp [p18]
  refine callW_of (refRight_vc hg) (by simp) ?_
  cases hr : right g
  · simp [doR, hr, doV, noGr, grV]
  · simp
    refine callW_of names_vc (by simp) ?_
    cases hn : namesR g a
    · simp [doR, hr, hn, doV, noGr, grV]
    · obtain ⟨hg1, hg2, hg3⟩ := hg
      have hlim : ∀ n : Nat, n ≤ 100001 → n ≤ lim := fun n h => by simp [lim]; omega
      have hrr : a.kind = 1 ∨ a.kind = 6 ∨ a.kind = 7 → isRt g a.r = true := fun h => by
        unfold namesR at hn
        rcases h with h | h | h <;> rw [h] at hn <;> simp at hn <;> simp [hn]
      by_cases k1 : a.kind = 1
      · simp [k1]
        refine callW_of ref5Right_vc (by simp) ?_
        cases hs : shapeOk a.size a.ptrs
        · simp [doR, hr, hn, k1, hs, doV, noGr, grV]
        · simp
          refine callW_of (rooted_vc (hrr (.inl k1)) hg2) (by simp) ?_
          simp
          refine callW_of (fresh_vc hs) (by simp) ?_
          simp [hlim _ (Nat.le_succ_of_le hg1), hlim _ (Nat.succ_le_succ hg1)]
          simp [doR, hr, hn, k1, hs, doV, rooted, grV]
      · by_cases k6 : a.kind = 6
        · have hss : isRt g a.s = true := by unfold namesR at hn; rw [k6] at hn; simp at hn; simp [hn]
          obtain ⟨s, hse, hsl, hsr, hs0, hs1⟩ := rt_in hr hss
          rw [hse] at hsr
          simp [k6, hse, hsl]
          refine callW_of (rooted_vc (hrr (.inr (.inl k6))) hg2) (by simp) ?_
          simp [doR, hr, hn, k6, doV, hse, hsr]
          rfl
        · by_cases k7 : a.kind = 7
          · simp [k7]
            refine callW_of (rooted_vc (hrr (.inr (.inr k7))) hg2) (by simp) ?_
            simp [doR, hr, hn, k7, doV]
            rfl
          · have hk : a.kind = 2 ∨ a.kind = 3 ∨ a.kind = 4 ∨ a.kind = 5 := by
              unfold namesR at hn
              by_cases q2 : a.kind = 2
              · exact .inl q2
              · by_cases q3 : a.kind = 3
                · exact .inr (.inl q3)
                · by_cases q4 : a.kind = 4
                  · exact .inr (.inr (.inl q4))
                  · by_cases q5 : a.kind = 5
                    · exact .inr (.inr (.inr q5))
                    · simp [k1, k6, k7, q2, q3, q4, q5] at hn
            simp [k1, k6, k7]
            refine callW_of (slot_vc ⟨hg1, hg2, hg3⟩ hr hn hk) (by simp) ?_
            simp [doV]
            simp [doR, hr, hn, k1, k6, k7]
            rfl
/-! ### An act of raw numbers -/
def mkAc (l : List Int) (v : Int) : Ac :=
  let z := pick (l.getD 4 0) 6
  ⟨1 + pick (l.getD 0 0) 7, pick (l.getD 1 0) 5, pick (l.getD 2 0) 5, pick (l.getD 3 0) 4, z, pick ((l.getD 4 0).tdiv 6) (z + 1), v⟩
theorem Act_vc {l : List Int} {v : Int} (hl : l.length = 5) (hf : ∀ x ∈ l, Fit x) : VC Try.prog 19 false [.agg (l.map vi), vu v] (acV (mkAc l v)) := by
  refine vc_of_wp Try.func19 follows (by kernel_rfl) c19 rfl ?_
  match l, hl with
  | [a, b, c, d, e], _ =>
    have fa := hf a (by simp)
    have fb := hf b (by simp)
    have fc := hf c (by simp)
    have fd := hf d (by simp)
    have fe := hf e (by simp)
    simp [p19, aiV]
    refine callW_of (pick_vc fe (by omega)) (by simp) ?_
    have hz := pick_lt (c := e) (n := 6) (by omega)
    have hw := wrap_i (pick e 6 + 1) (by omega) (by omega)
    have he : -9223372036854775808 ≤ e.tdiv 6 ∧ e.tdiv 6 ≤ 9223372036854775807 := by
      obtain ⟨h1, h2⟩ := fe
      rw [Int.tdiv_eq_ediv]
      have : Int.sign 6 = 1 := rfl
      split <;> omega
    have hwe := wrap_i (e.tdiv 6) he.1 he.2
    simp [aiV, hw, hwe]
    refine callW_of (pick_vc (c := e.tdiv 6) he (by omega)) (by simp) ?_
    simp [aiV]
    refine callW_of (pick_vc fa (by omega)) (by simp) ?_
    simp [aiV]
    refine callW_of (pick_vc fb (by omega)) (by simp) ?_
    simp [aiV]
    refine callW_of (pick_vc fc (by omega)) (by simp) ?_
    simp [aiV]
    refine callW_of (pick_vc fd (by omega)) (by simp) ?_
    have h7 := pick_lt (c := a) (n := 7) (by omega)
    have hw7 := wrap_i (1 + pick a 7) (by omega) (by omega)
    simp [aiV, hw7]
    simp [acV, mkAc]
end Vm
/-
  The reference's own orders and Canons.
-/
namespace Vm
open Go Go.Proofs
set_option linter.unusedSimpArgs false
set_option linter.unusedVariables false
set_option maxRecDepth 100000
/-- a number's place among others, or -1 -/
def placeL (l : List Int) (p : Int) : Int := match l.findIdx? (· == p) with
  | some i => (i : Nat)
  | none => -1
theorem placeL_none {l : List Int} {p : Int} (h : p ∉ l) : placeL l p = -1 := by
  unfold placeL; rw [findIdx_none.2 h]
theorem placeL_at0 {l : List Int} {p : Int} (h : p ∈ l) : placeL l p = at0 l p := by
  unfold placeL at0
  cases hf : l.findIdx? (· == p) with
  | none => exact (findIdx_none.1 hf h).elim
  | some i => rfl
theorem placeL_neg {l : List Int} {p : Int} : placeL l p < 0 ↔ p ∉ l := by
  constructor
  · intro h hm
    rw [placeL_at0 hm] at h
    have := (at0_get hm).1
    omega
  · intro h
    rw [placeL_none h]; omega
theorem placeL_first {l : List Int} {p : Int} {i : Nat} (h : p ∉ l.take i) (hx : l[i]? = some p) : placeL l p = i := by
  have hi : i < l.length := (List.getElem?_eq_some_iff.1 hx).1
  have : l.findIdx? (· == p) = some i := by
    rw [List.findIdx?_eq_some_iff_getElem]
    refine ⟨hi, by have := (List.getElem?_eq_some_iff.1 hx).2; simp [this], fun j hj => ?_⟩
    simp only [beq_iff_eq]
    intro e
    exact h (List.mem_take_iff_getElem.2 ⟨j, by omega, e⟩)
  unfold placeL
  rw [this]
theorem place_vc {l : List Int} {p : Int} (hl : l.length ≤ 1000000) : VC Try.prog 59 false [.sl (l.map vi), vi p] (vi (placeL l p)) := by
  refine vc_of_wp Try.func59 follows (by kernel_rfl) c59 rfl ?_
  simp [p59]
  refine wpS_loop (fun t => ∃ i : Nat, i ≤ l.length ∧ p ∉ l.take i ∧ t = [.v (.sl (l.map vi)), .v (vi p), .v (vi 0), .v (vi i)]) (fun t => match get t 3 with | .v (.int _ n) => l.length - n.toNat | _ => 0) ?_ ?_
  · exact ⟨0, by simp, by simp, by simp⟩
  · rintro t ⟨i, hi, hn, rfl⟩
    by_cases h : i < l.length
    · have hx : l[i]? = some l[i] := List.getElem?_eq_getElem h
      have hw := wrap_i ((i : Int) + 1) (by omega) (by omega)
      by_cases hp : l[i] = p
      · simp [h, hp]
        rw [placeL_first hn (by rw [hx, hp])]
      · simp [h, hp, hw]
        refine ⟨⟨i + 1, by omega, ?_, by simp⟩, by omega⟩
        rw [List.take_add_one, hx, List.mem_append]
        rintro (h1 | h1)
        · exact hn h1
        · have : p = l[i] := by simpa using h1
          exact hp this.symm
    · have : i = l.length := by omega
      subst this
      rw [List.take_length] at hn
      simp [placeL_none hn]
theorem more_vc {l ps : List Int} (hl : l.length ≤ 500000) (hp : ps.length ≤ 100000) : VC Try.prog 45 false [.sl (l.map vi), .sl (ps.map vi)] (.sl ((noteL l ps).map vi)) := by
  refine vc_of_wp Try.func45 follows (by kernel_rfl) c45 rfl ?_
  have hll : l.length ≤ lim := by simp [lim]; omega
  simp [p45, hll]
  refine wpS_loop (fun t => ∃ (i : Nat) (o : List Int), i ≤ ps.length ∧ noteL o (ps.drop i) = noteL l ps ∧ o.length ≤ l.length + i ∧ t = [.v (.sl (l.map vi)), .v (.sl (ps.map vi)), .v (.sl []), .v (.sl (o.map vi)), .v (vi i)]) (fun t => match get t 4 with | .v (.int _ n) => ps.length - n.toNat | _ => 0) ?_ ?_
  · exact ⟨0, l, by simp, by simp, by omega, by simp⟩
  · rintro t ⟨i, o, hi, hn, hol, rfl⟩
    by_cases h : i < ps.length
    · have hd : ps.drop i = ps[i] :: ps.drop (i + 1) := List.drop_eq_getElem_cons h
      have hw := wrap_i ((i : Int) + 1) (by omega) (by omega)
      rw [hd] at hn
      simp only [noteL] at hn
      by_cases h0 : 0 ≤ ps[i]
      · simp [h, h0]
        refine callW_of (place_vc (p := ps[i]) (by omega)) (by simp [flV, V.flatc]) ?_
        by_cases hm : ps[i] ∈ o
        · have := placeL_neg (l := o) (p := ps[i])
          have h3 : ¬ placeL o ps[i] < 0 := fun hh => this.1 hh hm
          rw [if_neg (by simp [hm])] at hn
          simp [h3, hw]
          exact ⟨⟨i + 1, by omega, o, hn, by omega, rfl, by simp⟩, by omega⟩
        · have h3 : placeL o ps[i] < 0 := placeL_neg.2 hm
          rw [if_pos ⟨h0, hm⟩] at hn
          simp [h, h3, hw]
          exact ⟨by simp [lim]; omega, ⟨i + 1, by omega, o ++ [ps[i]], hn, by simp; omega, by simp, by simp⟩, by omega⟩
      · rw [if_neg (by omega)] at hn
        simp [h, h0, hw]
        exact ⟨⟨i + 1, by omega, o, hn, by omega, rfl, by simp⟩, by omega⟩
    · have : i = ps.length := by omega
      subst this
      simp [noteL] at hn
      subst hn
      simp
theorem refOrder_vc {g : Gr} (hg : g.sm) : VC Try.prog 24 false [grV g] (.sl ((orderR g).map vi)) := by
  refine vc_of_wp Try.func24 follows (by kernel_rfl) c24 rfl ?_
  simp [p24]
  refine callW_of (refRight_vc hg) (by simp) ?_
  cases hr : right g
  · simp [orderR, hr]
  · obtain ⟨hg1, hg2, hg3⟩ := hg
    have hroots := right_roots hr
    have hgood : Good g.nodes.length (noteL [] g.roots) := noteL_good ⟨by simp, by simp⟩ fun x hx => (hroots x hx).2
    have hm := more_vc (l := []) (ps := g.roots) (by simp) hg2
    simp at hm
    simp
    refine callW_of hm (by simp) ?_
    simp
    refine wpS_loop (fun t => ∃ (i : Nat) (l : List Int), i ≤ l.length ∧ Good g.nodes.length l ∧ orderL g (g.nodes.length + 1 - i) i l = order g ∧ t = [.v (grV g), .m [.sl (g.nodes.map ndV), .sl (g.roots.map vi)], .v (.sl []), .v (.bool true), .v (.bool false), .v (.sl (l.map vi)), .v (vi i)]) (fun t => match get t 6 with | .v (.int _ n) => g.nodes.length - n.toNat | _ => 0) ?_ ?_
    · exact ⟨0, _, by simp, hgood, rfl, by simp⟩
    · rintro t ⟨i, l, hi, hl, ho, rfl⟩
      have hlen := hl.len
      by_cases h : i < l.length
      · obtain ⟨x0, x1⟩ := hl.2 _ (List.getElem_mem h)
        obtain ⟨k, hk⟩ := Int.eq_ofNat_of_zero_le x0
        have hkl : k < g.nodes.length := by omega
        have hx : l[i]? = some (k : Int) := by rw [List.getElem?_eq_getElem h, hk]
        have hw := wrap_i ((i : Int) + 1) (by omega) (by omega)
        simp [h, hk, hkl]
        refine callW_of (more_vc (by omega) (hg3 _ (List.getElem_mem hkl)).1) (by simp) ?_
        have hgood' : Good g.nodes.length (noteL l g.nodes[k].ptrs) := noteL_good hl fun x hx => (right_ptrs hr _ (List.getElem_mem hkl) x hx).2
        simp [hw]
        refine ⟨⟨i + 1, _, ?_, hgood', ?_, rfl, by simp⟩, by omega⟩
        · obtain ⟨t, ht⟩ := noteL_pre g.nodes[k].ptrs (acc := l)
          rw [ht, List.length_append]; omega
        · rw [show g.nodes.length + 1 - i = (g.nodes.length + 1 - (i + 1)) + 1 by omega, orderL, hx] at ho
          simpa [hkl] using ho
      · have : i = l.length := by omega
        subst this
        have hol : l = order g := by
          rw [← ho]
          cases hf : g.nodes.length + 1 - l.length with
          | zero => omega
          | succ f => simp [orderL]
        subst hol
        simp [orderR, hr]
theorem named_vc {l ps : List Int} (hl : l.length ≤ 1000000) (hp : ps.length ≤ 100000) : VC Try.prog 43 false [.sl (l.map vi), .sl (ps.map vi)] (.sl ((ps.map (placeL l)).map vi)) := by
  refine vc_of_wp Try.func43 follows (by kernel_rfl) c43 rfl ?_
  simp [p43]
  refine wpS_loop (fun t => ∃ i : Nat, i ≤ ps.length ∧ t = [.v (.sl (l.map vi)), .v (.sl (ps.map vi)), .v (.sl []), .v (.sl ((ps.map (vi ∘ placeL l)).take i)), .v (vi i)]) (fun t => match get t 4 with | .v (.int _ n) => ps.length - n.toNat | _ => 0) ?_ ?_
  · exact ⟨0, by simp, by simp⟩
  · rintro t ⟨i, hi, rfl⟩
    have hw := wrap_i ((i : Int) + 1) (by omega) (by omega)
    by_cases h : i < ps.length
    · have hx : ps[i]? = some ps[i] := List.getElem?_eq_getElem h
      simp [h]
      refine callW_of (place_vc (by omega)) (by simp) ?_
      simp [hw]
      exact ⟨by simp [lim]; omega, ⟨i + 1, by omega, snoc_map hx rfl, by simp⟩, by omega⟩
    · have : i = ps.length := by omega
      subst this
      simp
theorem named_movedL {g : Gr} (hr : right g = true) {ps : List Int} (hps : ∀ p ∈ ps, -1 ≤ p ∧ (0 ≤ p → p ∈ order g)) : ps.map (placeL (order g)) = movedL (order g) ps := by
  unfold movedL
  refine List.map_congr_left fun p hp => ?_
  obtain ⟨h1, h2⟩ := hps p hp
  split
  · rename_i h0; exact placeL_at0 (h2 h0)
  · have : p = -1 := by omega
    subst this
    exact placeL_none fun hm => by have := ((order_good hr).2 _ hm).1; omega
theorem refCanon_vc {g : Gr} (hg : g.sm) : VC Try.prog 21 false [grV g] (canonR g) := by
  refine vc_of_wp Try.func21 follows (by kernel_rfl) c21 rfl ?_
  have hO := refOrder_vc hg
  simp [p21]
  refine callW_of (refRight_vc hg) (by simp) ?_
  cases hr : right g
  · simp [canonR, hr, noGr, grV]
  · rw [show orderR g = order g from if_pos hr] at hO
    simp
    refine callW_of hO (by simp) ?_
    obtain ⟨hg1, hg2, hg3⟩ := hg
    have hgood := order_good hr
    have hlen := hgood.len
    have hlr := fun x hx => live_root (x := x) hr hx
    have hlo := fun x y hx hy => live_out (x := x) (y := y) hr hx hy
    have hnm := fun ps => named_movedL (ps := ps) hr
    have hcan : canon g = ⟨(order g).map (canonNd g (order g)), movedL (order g) g.roots⟩ := rfl
    generalize order g = l at *
    simp
    refine wpS_loop (fun t => ∃ i : Nat, i ≤ l.length ∧ t = [.v (grV g), .m [.sl (g.nodes.map ndV), .sl (g.roots.map vi)], .m [.sl [], .sl []], .v (vi 0), .v (.bool true), .v (.bool false), .v (.sl (l.map vi)), .m [.sl ((l.map (ndV ∘ canonNd g l)).take i), .sl []], .v (vi i)]) (fun t => match get t 8 with | .v (.int _ n) => l.length - n.toNat | _ => 0) ?_ ?_
    · exact ⟨0, by simp, by simp⟩
    · rintro t ⟨i, hi, rfl⟩
      have hw := wrap_i ((i : Int) + 1) (by omega) (by omega)
      by_cases h : i < l.length
      · have hx : l[i]? = some l[i] := List.getElem?_eq_getElem h
        have hxm := List.getElem_mem h
        obtain ⟨x0, x1⟩ := hgood.2 _ hxm
        obtain ⟨k, hk⟩ := Int.eq_ofNat_of_zero_le x0
        have hkl : k < g.nodes.length := by omega
        obtain ⟨s1, s2⟩ := hg3 _ (List.getElem_mem hkl)
        have ho : outs g l[i] = g.nodes[k].ptrs := by unfold outs; rw [hk]; simp [hkl]
        simp [h, hk, hkl]
        refine callW_of (named_vc (by omega) s1) (by simp) ?_
        rw [hnm _ fun p hp => ⟨(right_ptrs hr _ (List.getElem_mem hkl) p hp).1, fun h0 => hlo _ p hxm (by rw [ho]; exact hp) h0⟩]
        simp [h, hk, hkl, hw]
        exact ⟨by simp [lim]; omega, ⟨i + 1, by omega, snoc_map hx (by simp [canonNd, hk, hkl, ndV]), by simp⟩, by omega⟩
      · have : i = l.length := by omega
        subst this
        simp
        refine callW_of (named_vc (by omega) hg2) (by simp) ?_
        rw [hnm _ fun p hp => ⟨(right_roots hr p hp).1, hlr p hp⟩]
        simp [canonR, hr, hcan]
        simp [grV]
end Vm
