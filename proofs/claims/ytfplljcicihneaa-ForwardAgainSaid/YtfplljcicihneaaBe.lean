/-
  Heaps that are made of raw numbers (layer 11's statements): where each node stands.
-/
import Derived.Test.YtfplljcicihneaaBd
import Derived.Test.YtfplljcicihneaaHe
namespace Vm
open Go Go.Proofs
set_option linter.unusedSimpArgs false
set_option linter.unusedVariables false
set_option maxRecDepth 100000
set_option maxHeartbeats 1000000
structure Pl where
  part : Int
  at_ : Int
  deriving DecidableEq, Inhabited
def plV (p : Pl) : V := .agg [vi p.part, vi p.at_]
@[simp] theorem plV_cells (p : Pl) : (plV p).cells = [vi p.part, vi p.at_] := rfl
@[simp] theorem fldsV_plV (p : Pl) : fldsV (plV p) 0 2 = some (plV p) := rfl
@[simp] theorem fldV_plV0 (p : Pl) : fldV (plV p) 0 = some (vi p.part) := rfl
@[simp] theorem fldV_plV1 (p : Pl) : fldV (plV p) 1 = some (vi p.at_) := rfl
@[simp] theorem szV_plV (p : Pl) : szV (plV p) 2 = some (plV p) := rfl
@[simp] theorem sizeOk_plV (l : List Pl) : sizeOk 2 (l.map plV) = true := sizeOk_map fun _ => rfl
structure Rw where
  nodes : List Nd
  roots : List Int
  cls : List Int
  base : Int
  slack : Int
  scan : Int
  to : Int
  deriving Inhabited
def rwV (x : Rw) : V := .agg [.sl (x.nodes.map ndV), .sl (x.roots.map vi), .sl (x.cls.map vi), vu x.base, vi x.slack, vi x.scan, vi x.to]
@[simp] theorem szV_rwV (x : Rw) : szV (rwV x) 7 = some (rwV x) := rfl
@[simp] theorem rwV_cells (x : Rw) : (rwV x).cells = [.sl (x.nodes.map ndV), .sl (x.roots.map vi), .sl (x.cls.map vi), vu x.base, vi x.slack, vi x.scan, vi x.to] := rfl
@[simp] theorem fldV_rwV0 (x : Rw) : fldV (rwV x) 0 = some (.sl (x.nodes.map ndV)) := rfl
@[simp] theorem fldV_rwV1 (x : Rw) : fldV (rwV x) 1 = some (.sl (x.roots.map vi)) := rfl
@[simp] theorem fldV_rwV2 (x : Rw) : fldV (rwV x) 2 = some (.sl (x.cls.map vi)) := rfl
@[simp] theorem fldV_rwV3 (x : Rw) : fldV (rwV x) 3 = some (vu x.base) := rfl
@[simp] theorem fldV_rwV4 (x : Rw) : fldV (rwV x) 4 = some (vi x.slack) := rfl
@[simp] theorem fldV_rwV5 (x : Rw) : fldV (rwV x) 5 = some (vi x.scan) := rfl
@[simp] theorem fldV_rwV6 (x : Rw) : fldV (rwV x) 6 = some (vi x.to) := rfl
structure Rw.ok (x : Rw) : Prop where
  ptrs : ∀ n ∈ x.nodes, ∀ p ∈ n.ptrs, Fit p
  data : ∀ n ∈ x.nodes, ∀ p ∈ n.data, U64 p
  roots : ∀ p ∈ x.roots, Fit p
  cls : ∀ p ∈ x.cls, Fit p
  base : U64 x.base
  slack : Fit x.slack
  scan : Fit x.scan
  to : Fit x.to
def rawC (x : Rw) (i : Nat) : Int := if x.cls.length = 0 then i else (x.cls[i % x.cls.length]?).getD 0
def clsK (x : Rw) (i : Nat) (cycle : Bool) : Int := if pick (rawC x i) 3 = 2 ∧ cycle = false then 1 else pick (rawC x i) 3
def clsF (x : Rw) (i : Nat) : Bool := decide (pick ((rawC x i).tdiv 3) 2 = 1)
theorem clsK_range (x : Rw) (i : Nat) (cycle : Bool) : clsK x i cycle = 0 ∨ clsK x i cycle = 1 ∨ (clsK x i cycle = 2 ∧ cycle = true) := by
  have := pick_lt (c := rawC x i) (n := 3) (by omega)
  unfold clsK
  split
  · exact .inr (.inl rfl)
  · rename_i h
    cases cycle
    · simp at h; omega
    · simp; omega
theorem class_vc {x : Rw} (hx : x.ok) {i : Nat} (hi : i ≤ 1000) {cycle : Bool} : VC Try.prog 85 false [rwV x, vi i, .bool cycle] (.tup [vi (clsK x i cycle), .bool (clsF x i)]) := by
  refine vc_of_wp Try.func85 follows (by kernel_rfl) c85 rfl ?_
  have hc : Fit (rawC x i) := by
    unfold rawC
    split
    · exact ⟨by omega, by omega⟩
    · rename_i h
      have : i % x.cls.length < x.cls.length := Nat.mod_lt _ (by omega)
      rw [List.getElem?_eq_getElem this]
      exact hx.cls _ (List.getElem_mem this)
  have hp3 := pick11_vc (c := rawC x i) (n := 3) hc (by omega)
  have hd : Fit ((rawC x i).tdiv 3) := by
    obtain ⟨h1, h2⟩ := hc
    unfold Fit
    rw [Int.tdiv_eq_ediv]
    have : Int.sign 3 = 1 := rfl
    split <;> omega
  have hwd := wrap_i _ hd.1 hd.2
  have hp2 := pick11_vc (c := (rawC x i).tdiv 3) (n := 2) hd (by omega)
  have fin : ∀ (b : Bool), (decide (pick ((rawC x i).tdiv 3) 2 = 1) = b) → clsF x i = b := fun b h => h
  by_cases hl : x.cls.length = 0
  · have hr : rawC x i = i := by simp [rawC, hl]
    rw [hr] at hp3 hp2 hwd
    rw [Int.tdiv_eq_ediv_of_nonneg (by omega)] at hp2 hwd
    simp [p85, hl]
    refine callW_of hp3 (by simp) ?_
    by_cases h2 : pick (i : Int) 3 = 2
    · cases cycle
      · simp [h2, hwd]
        refine callW_of hp2 (by simp) ?_
        simp [clsK, clsF, hr, h2]
      · simp [h2, hwd]
        refine callW_of hp2 (by simp) ?_
        simp [clsK, clsF, hr, h2]
    · simp [h2, hwd]
      refine callW_of hp2 (by simp) ?_
      simp [clsK, clsF, hr, h2]
  · have hlt : i % x.cls.length < x.cls.length := Nat.mod_lt _ (by omega)
    have hg : x.cls[i % x.cls.length]? = some x.cls[i % x.cls.length] := List.getElem?_eq_getElem hlt
    have hr : rawC x i = x.cls[i % x.cls.length] := by simp [rawC, hl, hg]
    have hm : (i : Int).tmod (x.cls.length : Int) = ((i % x.cls.length : Nat) : Int) := by
      rw [Int.tmod_eq_emod_of_nonneg (by omega)]; rfl
    rw [hr] at hp3 hp2 hwd
    have h0 : 0 < x.cls.length := by omega
    have hne : x.cls ≠ [] := fun e => by rw [e] at h0; simp at h0
    have hm' : ((i : Int) % (x.cls.length : Int)) = ((i % x.cls.length : Nat) : Int) := rfl
    generalize hcc : x.cls[i % x.cls.length] = c at *
    generalize hii : i % x.cls.length = j at *
    simp [p85, h0, hne, hm, hlt, hcc]
    refine callW_of hp3 (by simp) ?_
    by_cases h2 : pick c 3 = 2
    · cases cycle
      · simp [h2, hwd]
        refine callW_of hp2 (by simp) ?_
        simp [clsK, clsF, hr, h2]
      · simp [h2, hwd]
        refine callW_of hp2 (by simp) ?_
        simp [clsK, clsF, hr, h2]
    · simp [h2, hwd]
      refine callW_of hp2 (by simp) ?_
      simp [clsK, clsF, hr, h2]
def sizN (n : Nd) : Nat := 1 + n.ptrs.length + n.data.length
structure St8 where
  n1 : Nat
  n2 : Nat
  n3 : Nat
  n4 : Nat
  wt : Nat
  here : List Pl
  old : List Pl
def stStep (x : Rw) (cycle : Bool) (sz : Nat) (i : Nat) (s : St8) : St8 :=
  let k := clsK x i cycle
  let far := clsF x i
  let o : Bool := decide (0 < k) && cycle
  { n1 := if k = 1 then s.n1 + sz else s.n1
    n2 := if k = 0 then s.n2 + sz else s.n2
    n3 := if o && !far then s.n3 + sz else s.n3
    n4 := if o && far then s.n4 + sz else s.n4
    wt := if k = 2 then s.wt + sz else s.wt
    here := s.here ++ [if k = 0 then ⟨2, s.n2⟩ else if k = 1 then ⟨1, s.n1⟩ else ⟨0, 0⟩]
    old := s.old ++ [if o then (if far then ⟨4, s.n4⟩ else ⟨3, s.n3⟩) else ⟨0, 0⟩] }
def stN (x : Rw) (cycle : Bool) (g : Gr) : Nat → St8
  | 0 => ⟨0, 0, 0, 0, 0, [], []⟩
  | i + 1 => stStep x cycle (sizN ((g.nodes[i]?).getD default)) i (stN x cycle g i)
theorem stStep_bound {x : Rw} {cycle : Bool} {sz i : Nat} (hs : sz ≤ 9) (s : St8) (h1 : s.n1 + s.n2 + s.wt ≤ 9 * i) (h2 : s.n3 + s.n4 ≤ 9 * i) (h3 : s.here.length = i) (h4 : s.old.length = i) :
    (stStep x cycle sz i s).n1 + (stStep x cycle sz i s).n2 + (stStep x cycle sz i s).wt ≤ 9 * (i + 1) ∧ (stStep x cycle sz i s).n3 + (stStep x cycle sz i s).n4 ≤ 9 * (i + 1) ∧ (stStep x cycle sz i s).here.length = i + 1 ∧ (stStep x cycle sz i s).old.length = i + 1 := by
  rcases clsK_range x i cycle with hk | hk | ⟨hk, rfl⟩
  · simp [stStep, hk, h3, h4]; omega
  · cases cycle <;> cases hf : clsF x i <;> simp [stStep, hk, hf, h3, h4] <;> omega
  · cases hf : clsF x i <;> simp [stStep, hk, hf, h3, h4] <;> omega
theorem stN_bound {x : Rw} {cycle : Bool} {g : Gr} (hg : ∀ n ∈ g.nodes, sizN n ≤ 9) : ∀ i, i ≤ g.nodes.length → (stN x cycle g i).n1 + (stN x cycle g i).n2 + (stN x cycle g i).wt ≤ 9 * i ∧ (stN x cycle g i).n3 + (stN x cycle g i).n4 ≤ 9 * i ∧ (stN x cycle g i).here.length = i ∧ (stN x cycle g i).old.length = i
  | 0, _ => by simp [stN]
  | i + 1, hi => by
    obtain ⟨h1, h2, h3, h4⟩ := stN_bound (x := x) (cycle := cycle) hg i (by omega)
    have hn := hg _ (List.getElem_mem (show i < g.nodes.length by omega))
    simp only [stN, List.getElem?_eq_getElem (show i < g.nodes.length by omega), Option.getD_some]
    exact stStep_bound hn _ h1 h2 h3 h4
structure Bt where
  h : Hp
  g : Gr
  here : List Pl
  old : List Pl
def btC (b : Bt) : List V := [vu b.h.base, vi b.h.cap, vi b.h.to, .bool b.h.cycle, vi b.h.scan, .sl (b.h.low.map vu), .sl (b.h.high.map vu), .sl (b.h.old.map vu), .sl (b.h.far.map vu), .sl (b.h.roots.map vu), .sl (b.g.nodes.map ndV), .sl (b.g.roots.map vi), .sl (b.here.map plV), .sl (b.old.map plV)]
def btV (b : Bt) : V := .agg [vu b.h.base, vi b.h.cap, vi b.h.to, .bool b.h.cycle, vi b.h.scan, .sl (b.h.low.map vu), .sl (b.h.high.map vu), .sl (b.h.old.map vu), .sl (b.h.far.map vu), .sl (b.h.roots.map vu), .sl (b.g.nodes.map ndV), .sl (b.g.roots.map vi), .sl (b.here.map plV), .sl (b.old.map plV)]
def standB (x : Rw) (cycle : Bool) : Bt :=
  let g := mkG x.nodes x.roots
  let s := stN x cycle g g.nodes.length
  let cap : Int := max ((s.n1 : Int) + s.n2 + s.wt) ((s.n3 : Int) + s.n4) + pick x.slack 12
  ⟨⟨1 + x.base % (9223372036854775808 - 2 * cap), cap, pick x.to 2, cycle, if cycle = true ∧ 0 < s.n1 then pick x.scan s.n1 else s.n1, List.replicate s.n1 0, List.replicate s.n2 0, List.replicate s.n3 0, List.replicate s.n4 0, []⟩, g, s.here, s.old⟩
theorem stand_vc {x : Rw} (hx : x.ok) {cycle : Bool} : VC Try.prog 51 false [rwV x, .bool cycle] (btV (standB x cycle)) := by
  refine vc_of_wp Try.func51 follows (by kernel_rfl) c51 rfl ?_
  simp [p51]
  refine callW_of (Graph_vc hx.ptrs hx.roots) (by simp) ?_
  obtain ⟨hb1, hb2, hb3⟩ := mkG_bounds x.nodes x.roots
  have hb5 := mkG_nodes x.nodes x.roots
  unfold standB
  generalize mkG x.nodes x.roots = g at *
  have hsz : ∀ n ∈ g.nodes, sizN n ≤ 9 := fun n hn => by have := hb3 n hn; unfold sizN; omega
  simp
  refine wpS_for 7 g.nodes.length (fun i => [(4, .m [.int .u64 0, .int .i64 0, .int .i64 0, .bool false, .int .i64 0, .sl [], .sl [], .sl [], .sl [], .sl [], .sl (g.nodes.map ndV), .sl (g.roots.map vi), .sl ((stN x cycle g i).here.map plV), .sl ((stN x cycle g i).old.map plV)]),
    (5, .m [vi 0, vi (stN x cycle g i).n1, vi (stN x cycle g i).n2, vi (stN x cycle g i).n3, vi (stN x cycle g i).n4]), (6, .v (vi (stN x cycle g i).wt)), (7, .v (vi i))]) (fun _ => True) (by simp [stN]) (fun i => by simp) trivial ?_
  rintro i hi -
  have hw := wrap_i ((i : Int) + 1) (by omega) (by omega)
  obtain ⟨s1, s2, s3, s4⟩ := stN_bound (x := x) (cycle := cycle) hsz i hi
  by_cases h : i < g.nodes.length
  · have hn : g.nodes[i]? = some g.nodes[i] := List.getElem?_eq_getElem h
    have hz := hsz _ (List.getElem_mem h)
    simp only [stN, hn, Option.getD_some]
    generalize stN x cycle g i = s at *
    generalize g.nodes[i] = n at *
    have hc := class_vc hx (i := i) (by omega) (cycle := cycle)
    have hkr := clsK_range x i cycle
    have w1 := wrap_i (1 + (n.ptrs.length : Int)) (by unfold sizN at hz; omega) (by unfold sizN at hz; omega)
    have w2 := wrap_i (1 + (n.ptrs.length : Int) + n.data.length) (by unfold sizN at hz; omega) (by unfold sizN at hz; omega)
    have e2 : (1 + (n.ptrs.length : Int) + n.data.length) = (sizN n : Nat) := by unfold sizN; omega
    rw [e2] at w2
    simp [h]
    refine callW_of hc (by simp) ?_
    generalize hsz' : sizN n = sz at *
    unfold stStep
    generalize clsF x i = fr at *
    generalize clsK x i cycle = k at *
    have u1 := wrap_i ((s.n1 : Int) + sz) (by omega) (by omega)
    have u2 := wrap_i ((s.n2 : Int) + sz) (by omega) (by omega)
    have u3 := wrap_i ((s.n3 : Int) + sz) (by omega) (by omega)
    have u4 := wrap_i ((s.n4 : Int) + sz) (by omega) (by omega)
    have u5 := wrap_i ((s.wt : Int) + sz) (by omega) (by omega)
    have l1 : s.here.length + 1 ≤ lim := by simp [lim]; omega
    have l2 : s.old.length + 1 ≤ lim := by simp [lim]; omega
    rcases hkr with rfl | rfl | ⟨rfl, rfl⟩
    · cases cycle <;> simp [hn, at_of hn, w1, e2, w2, aiV, aputV, setCells, wrap_i, u1, u2, u3, u4, u5, l1, l2, plV, hw]
    · cases cycle
      · simp [hn, at_of hn, w1, e2, w2, aiV, aputV, setCells, wrap_i, u1, u2, u3, u4, u5, l1, l2, plV, hw]
      · cases fr <;> simp [hn, at_of hn, w1, e2, w2, aiV, aputV, setCells, wrap_i, u1, u2, u3, u4, u5, l1, l2, plV, hw]
    · cases fr <;> simp [hn, at_of hn, w1, e2, w2, aiV, aputV, setCells, wrap_i, u1, u2, u3, u4, u5, l1, l2, plV, hw]
  · have : i = g.nodes.length := by omega
    subst this
    generalize hs8 : stN x cycle g g.nodes.length = s at *
    have hpt := pick11_vc (c := x.to) (n := 2) hx.to (by omega)
    have hps := pick11_vc (c := x.slack) (n := 12) hx.slack (by omega)
    have hsl := pick_lt (c := x.slack) (n := 12) (by omega)
    simp
    refine callW_of hpt (by simp) ?_
    have q1 : s.n1 ≤ lim := by simp [lim]; omega
    have q2 : s.n2 ≤ lim := by simp [lim]; omega
    have q3 : s.n3 ≤ lim := by simp [lim]; omega
    have q4 : s.n4 ≤ lim := by simp [lim]; omega
    simp [aiV, q1, q2, q3, q4]
    refine callW_of hps (by simp) ?_
    have w1 := wrap_i ((s.n1 : Int) + s.n2) (by omega) (by omega)
    have w2 := wrap_i ((s.n1 : Int) + s.n2 + s.wt) (by omega) (by omega)
    have w3 := wrap_i ((s.n3 : Int) + s.n4) (by omega) (by omega)
    have hmax : (if (s.n1 : Int) + s.n2 + s.wt < (s.n3 : Int) + s.n4 then (s.n3 : Int) + s.n4 else (s.n1 : Int) + s.n2 + s.wt) = max ((s.n1 : Int) + s.n2 + s.wt) ((s.n3 : Int) + s.n4) := by split <;> omega
    obtain ⟨cap, hcap⟩ : ∃ cap : Int, max ((s.n1 : Int) + s.n2 + s.wt) ((s.n3 : Int) + s.n4) + pick x.slack 12 = cap := ⟨_, rfl⟩
    have hc0 : 0 ≤ cap ∧ cap ≤ 200 := by omega
    have w4 := wrap_i cap (by omega) (by omega)
    have w5 := wrap_u cap (by omega) (by omega)
    have w6 := wrap_u (2 * cap) (by omega) (by omega)
    have w7 := wrap_u (9223372036854775808 - 2 * cap) (by omega) (by omega)
    obtain ⟨b1, b2⟩ := hx.base
    have w8 : x.base.tmod (9223372036854775808 - 2 * cap) = x.base % (9223372036854775808 - 2 * cap) := Int.tmod_eq_emod_of_nonneg b1
    have h1 := Int.emod_nonneg x.base (show (9223372036854775808 - 2 * cap) ≠ 0 by omega)
    have h2 := Int.emod_lt_of_pos x.base (show 0 < (9223372036854775808 - 2 * cap) by omega)
    have w9 := wrap_u (1 + x.base % (9223372036854775808 - 2 * cap)) (by omega) (by omega)
    have hne : ¬ ((9223372036854775808 - 2 * cap) = 0) := by omega
    simp [aiV, w1, w2, w3, hmax, hcap, w4, w5, w6, w7, w8, w9, hne]
    cases cycle
    · simp [btV, hcap]
    · by_cases h0 : 0 < s.n1
      · have hp := pick11_vc (c := x.scan) (n := (s.n1 : Int)) hx.scan (by omega)
        simp [h0]
        refine callW_of hp (by simp) ?_
        simp [btV, hcap, h0, aiV]
      · simp [btV, hcap, h0]
end Vm
