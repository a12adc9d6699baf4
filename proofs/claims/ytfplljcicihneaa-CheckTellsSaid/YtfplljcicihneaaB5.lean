/-
  Heaps that are made of raw numbers (layer 11's statements): where each node stands.
-/
import Derived.Test.YtfplljcicihneaaBd
import Derived.Test.YtfplljcicihneaaHe
namespace Vm
open Go Go.Proofs
set_option linter.unusedSimpArgs false
set_option linter.unusedVariables false
set_option maxRecDepth 100000
set_option maxHeartbeats 1000000
structure Pl where
  part : Int
  at_ : Int
  deriving DecidableEq, Inhabited
def plV (p : Pl) : V := .agg [vi p.part, vi p.at_]
@[simp] theorem plV_cells (p : Pl) : (plV p).cells = [vi p.part, vi p.at_] := rfl
@[simp] theorem fldsV_plV (p : Pl) : fldsV (plV p) 0 2 = some (plV p) := rfl
@[simp] theorem fldV_plV0 (p : Pl) : fldV (plV p) 0 = some (vi p.part) := rfl
@[simp] theorem fldV_plV1 (p : Pl) : fldV (plV p) 1 = some (vi p.at_) := rfl
@[simp] theorem szV_plV (p : Pl) : szV (plV p) 2 = some (plV p) := rfl
@[simp] theorem sizeOk_plV (l : List Pl) : sizeOk 2 (l.map plV) = true := sizeOk_map fun _ => rfl
structure Rw where
  nodes : List Nd
  roots : List Int
  cls : List Int
  base : Int
  slack : Int
  scan : Int
  to : Int
  deriving Inhabited
def rwV (x : Rw) : V := .agg [.sl (x.nodes.map ndV), .sl (x.roots.map vi), .sl (x.cls.map vi), vu x.base, vi x.slack, vi x.scan, vi x.to]
@[simp] theorem szV_rwV (x : Rw) : szV (rwV x) 7 = some (rwV x) := rfl
@[simp] theorem rwV_cells (x : Rw) : (rwV x).cells = [.sl (x.nodes.map ndV), .sl (x.roots.map vi), .sl (x.cls.map vi), vu x.base, vi x.slack, vi x.scan, vi x.to] := rfl
@[simp] theorem fldV_rwV0 (x : Rw) : fldV (rwV x) 0 = some (.sl (x.nodes.map ndV)) := rfl
@[simp] theorem fldV_rwV1 (x : Rw) : fldV (rwV x) 1 = some (.sl (x.roots.map vi)) := rfl
@[simp] theorem fldV_rwV2 (x : Rw) : fldV (rwV x) 2 = some (.sl (x.cls.map vi)) := rfl
@[simp] theorem fldV_rwV3 (x : Rw) : fldV (rwV x) 3 = some (vu x.base) := rfl
@[simp] theorem fldV_rwV4 (x : Rw) : fldV (rwV x) 4 = some (vi x.slack) := rfl
@[simp] theorem fldV_rwV5 (x : Rw) : fldV (rwV x) 5 = some (vi x.scan) := rfl
@[simp] theorem fldV_rwV6 (x : Rw) : fldV (rwV x) 6 = some (vi x.to) := rfl
structure Rw.ok (x : Rw) : Prop where
  ptrs : ∀ n ∈ x.nodes, ∀ p ∈ n.ptrs, Fit p
  data : ∀ n ∈ x.nodes, ∀ p ∈ n.data, U64 p
  roots : ∀ p ∈ x.roots, Fit p
  cls : ∀ p ∈ x.cls, Fit p
  base : U64 x.base
  slack : Fit x.slack
  scan : Fit x.scan
  to : Fit x.to
def rawC (x : Rw) (i : Nat) : Int := if x.cls.length = 0 then i else (x.cls[i % x.cls.length]?).getD 0
def clsK (x : Rw) (i : Nat) (cycle : Bool) : Int := if pick (rawC x i) 3 = 2 ∧ cycle = false then 1 else pick (rawC x i) 3
def clsF (x : Rw) (i : Nat) : Bool := decide (pick ((rawC x i).tdiv 3) 2 = 1)
theorem clsK_range (x : Rw) (i : Nat) (cycle : Bool) : clsK x i cycle = 0 ∨ clsK x i cycle = 1 ∨ (clsK x i cycle = 2 ∧ cycle = true) := by
  have := pick_lt (c := rawC x i) (n := 3) (by omega)
  unfold clsK
  split
  · exact .inr (.inl rfl)
  · rename_i h
    cases cycle
    · simp at h; omega
    · simp; omega
theorem class_vc {x : Rw} (hx : x.ok) {i : Nat} (hi : i ≤ 1000) {cycle : Bool} : VC Try.prog 85 false [rwV x, vi i, .bool cycle] (.tup [vi (clsK x i cycle), .bool (clsF x i)]) := by
  refine vc_of_wp Try.func85 follows (by kernel_rfl) c85 rfl ?_
  have hc : Fit (rawC x i) := by
    unfold rawC
    split
    · exact ⟨by omega, by omega⟩
    · rename_i h
      have : i % x.cls.length < x.cls.length := Nat.mod_lt _ (by omega)
      rw [List.getElem?_eq_getElem this]
      exact hx.cls _ (List.getElem_mem this)
  have hp3 := pick11_vc (c := rawC x i) (n := 3) hc (by omega)
  have hd : Fit ((rawC x i).tdiv 3) := by
    obtain ⟨h1, h2⟩ := hc
    unfold Fit
    rw [Int.tdiv_eq_ediv]
    have : Int.sign 3 = 1 := rfl
    split <;> omega
  have hwd := wrap_i _ hd.1 hd.2
  have hp2 := pick11_vc (c := (rawC x i).tdiv 3) (n := 2) hd (by omega)
  have fin : ∀ (b : Bool), (decide (pick ((rawC x i).tdiv 3) 2 = 1) = b) → clsF x i = b := fun b h => h
  by_cases hl : x.cls.length = 0
  · have hr : rawC x i = i := by simp [rawC, hl]
    rw [hr] at hp3 hp2 hwd
    rw [Int.tdiv_eq_ediv_of_nonneg (by omega)] at hp2 hwd
    simp [p85, hl]
    refine callW_of hp3 (by simp) ?_
    by_cases h2 : pick (i : Int) 3 = 2
    · cases cycle
      · simp [h2, hwd]
        refine callW_of hp2 (by simp) ?_
        simp [clsK, clsF, hr, h2]
      · simp [h2, hwd]
        refine callW_of hp2 (by simp) ?_
        simp [clsK, clsF, hr, h2]
    · simp [h2, hwd]
      refine callW_of hp2 (by simp) ?_
      simp [clsK, clsF, hr, h2]
  · have hlt : i % x.cls.length < x.cls.length := Nat.mod_lt _ (by omega)
    have hg : x.cls[i % x.cls.length]? = some x.cls[i % x.cls.length] := List.getElem?_eq_getElem hlt
    have hr : rawC x i = x.cls[i % x.cls.length] := by simp [rawC, hl, hg]
    have hm : (i : Int).tmod (x.cls.length : Int) = ((i % x.cls.length : Nat) : Int) := by
      rw [Int.tmod_eq_emod_of_nonneg (by omega)]; rfl
    rw [hr] at hp3 hp2 hwd
    have h0 : 0 < x.cls.length := by omega
    have hne : x.cls ≠ [] := fun e => by rw [e] at h0; simp at h0
    have hm' : ((i : Int) % (x.cls.length : Int)) = ((i % x.cls.length : Nat) : Int) := rfl
    generalize hcc : x.cls[i % x.cls.length] = c at *
    generalize hii : i % x.cls.length = j at *
    simp [p85, h0, hne, hm, hlt, hcc]
    refine callW_of hp3 (by simp) ?_
    by_cases h2 : pick c 3 = 2
    · cases cycle
      · simp [h2, hwd]
        refine callW_of hp2 (by simp) ?_
        simp [clsK, clsF, hr, h2]
      · simp [h2, hwd]
        refine callW_of hp2 (by simp) ?_
        simp [clsK, clsF, hr, h2]
    · simp [h2, hwd]
      refine callW_of hp2 (by simp) ?_
      simp [clsK, clsF, hr, h2]
def sizN (n : Nd) : Nat := 1 + n.ptrs.length + n.data.length
structure St8 where
  n1 : Nat
  n2 : Nat
  n3 : Nat
  n4 : Nat
  wt : Nat
  here : List Pl
  old : List Pl
def stStep (x : Rw) (cycle : Bool) (sz : Nat) (i : Nat) (s : St8) : St8 :=
  let k := clsK x i cycle
  let far := clsF x i
  let o : Bool := decide (0 < k) && cycle
  { n1 := if k = 1 then s.n1 + sz else s.n1
    n2 := if k = 0 then s.n2 + sz else s.n2
    n3 := if o && !far then s.n3 + sz else s.n3
    n4 := if o && far then s.n4 + sz else s.n4
    wt := if k = 2 then s.wt + sz else s.wt
    here := s.here ++ [if k = 0 then ⟨2, s.n2⟩ else if k = 1 then ⟨1, s.n1⟩ else ⟨0, 0⟩]
    old := s.old ++ [if o then (if far then ⟨4, s.n4⟩ else ⟨3, s.n3⟩) else ⟨0, 0⟩] }
def stN (x : Rw) (cycle : Bool) (g : Gr) : Nat → St8
  | 0 => ⟨0, 0, 0, 0, 0, [], []⟩
  | i + 1 => stStep x cycle (sizN ((g.nodes[i]?).getD default)) i (stN x cycle g i)
theorem stStep_bound {x : Rw} {cycle : Bool} {sz i : Nat} (hs : sz ≤ 9) (s : St8) (h1 : s.n1 + s.n2 + s.wt ≤ 9 * i) (h2 : s.n3 + s.n4 ≤ 9 * i) (h3 : s.here.length = i) (h4 : s.old.length = i) :
    (stStep x cycle sz i s).n1 + (stStep x cycle sz i s).n2 + (stStep x cycle sz i s).wt ≤ 9 * (i + 1) ∧ (stStep x cycle sz i s).n3 + (stStep x cycle sz i s).n4 ≤ 9 * (i + 1) ∧ (stStep x cycle sz i s).here.length = i + 1 ∧ (stStep x cycle sz i s).old.length = i + 1 := by
  rcases clsK_range x i cycle with hk | hk | ⟨hk, rfl⟩
  · simp [stStep, hk, h3, h4]; omega
  · cases cycle <;> cases hf : clsF x i <;> simp [stStep, hk, hf, h3, h4] <;> omega
  · cases hf : clsF x i <;> simp [stStep, hk, hf, h3, h4] <;> omega
theorem stN_bound {x : Rw} {cycle : Bool} {g : Gr} (hg : ∀ n ∈ g.nodes, sizN n ≤ 9) : ∀ i, i ≤ g.nodes.length → (stN x cycle g i).n1 + (stN x cycle g i).n2 + (stN x cycle g i).wt ≤ 9 * i ∧ (stN x cycle g i).n3 + (stN x cycle g i).n4 ≤ 9 * i ∧ (stN x cycle g i).here.length = i ∧ (stN x cycle g i).old.length = i
  | 0, _ => by simp [stN]
  | i + 1, hi => by
    obtain ⟨h1, h2, h3, h4⟩ := stN_bound (x := x) (cycle := cycle) hg i (by omega)
    have hn := hg _ (List.getElem_mem (show i < g.nodes.length by omega))
    simp only [stN, List.getElem?_eq_getElem (show i < g.nodes.length by omega), Option.getD_some]
    exact stStep_bound hn _ h1 h2 h3 h4
structure Bt where
  h : Hp
  g : Gr
  here : List Pl
  old : List Pl
def btC (b : Bt) : List V := [vu b.h.base, vi b.h.cap, vi b.h.to, .bool b.h.cycle, vi b.h.scan, .sl (b.h.low.map vu), .sl (b.h.high.map vu), .sl (b.h.old.map vu), .sl (b.h.far.map vu), .sl (b.h.roots.map vu), .sl (b.g.nodes.map ndV), .sl (b.g.roots.map vi), .sl (b.here.map plV), .sl (b.old.map plV)]
def btV (b : Bt) : V := .agg [vu b.h.base, vi b.h.cap, vi b.h.to, .bool b.h.cycle, vi b.h.scan, .sl (b.h.low.map vu), .sl (b.h.high.map vu), .sl (b.h.old.map vu), .sl (b.h.far.map vu), .sl (b.h.roots.map vu), .sl (b.g.nodes.map ndV), .sl (b.g.roots.map vi), .sl (b.here.map plV), .sl (b.old.map plV)]
def standB (x : Rw) (cycle : Bool) : Bt :=
  let g := mkG x.nodes x.roots
  let s := stN x cycle g g.nodes.length
  let cap : Int := max ((s.n1 : Int) + s.n2 + s.wt) ((s.n3 : Int) + s.n4) + pick x.slack 12
  ⟨⟨1 + x.base % (9223372036854775808 - 2 * cap), cap, pick x.to 2, cycle, if cycle = true ∧ 0 < s.n1 then pick x.scan s.n1 else s.n1, List.replicate s.n1 0, List.replicate s.n2 0, List.replicate s.n3 0, List.replicate s.n4 0, []⟩, g, s.here, s.old⟩
theorem stand_vc {x : Rw} (hx : x.ok) {cycle : Bool} : VC Try.prog 51 false [rwV x, .bool cycle] (btV (standB x cycle)) := by
  refine vc_of_wp Try.func51 follows (by kernel_rfl) c51 rfl ?_
  simp [p51]
  refine callW_of (Graph_vc hx.ptrs hx.roots) (by simp) ?_
  obtain ⟨hb1, hb2, hb3⟩ := mkG_bounds x.nodes x.roots
  have hb5 := mkG_nodes x.nodes x.roots
  unfold standB
  generalize mkG x.nodes x.roots = g at *
  have hsz : ∀ n ∈ g.nodes, sizN n ≤ 9 := fun n hn => by have := hb3 n hn; unfold sizN; omega
  simp
  refine wpS_for 7 g.nodes.length (fun i => [(4, .m [.int .u64 0, .int .i64 0, .int .i64 0, .bool false, .int .i64 0, .sl [], .sl [], .sl [], .sl [], .sl [], .sl (g.nodes.map ndV), .sl (g.roots.map vi), .sl ((stN x cycle g i).here.map plV), .sl ((stN x cycle g i).old.map plV)]),
    (5, .m [vi 0, vi (stN x cycle g i).n1, vi (stN x cycle g i).n2, vi (stN x cycle g i).n3, vi (stN x cycle g i).n4]), (6, .v (vi (stN x cycle g i).wt)), (7, .v (vi i))]) (fun _ => True) (by simp [stN]) (fun i => by simp) trivial ?_
  rintro i hi -
  have hw := wrap_i ((i : Int) + 1) (by omega) (by omega)
  obtain ⟨s1, s2, s3, s4⟩ := stN_bound (x := x) (cycle := cycle) hsz i hi
  by_cases h : i < g.nodes.length
  · have hn : g.nodes[i]? = some g.nodes[i] := List.getElem?_eq_getElem h
    have hz := hsz _ (List.getElem_mem h)
    simp only [stN, hn, Option.getD_some]
    generalize stN x cycle g i = s at *
    generalize g.nodes[i] = n at *
    have hc := class_vc hx (i := i) (by omega) (cycle := cycle)
    have hkr := clsK_range x i cycle
    have w1 := wrap_i (1 + (n.ptrs.length : Int)) (by unfold sizN at hz; omega) (by unfold sizN at hz; omega)
    have w2 := wrap_i (1 + (n.ptrs.length : Int) + n.data.length) (by unfold sizN at hz; omega) (by unfold sizN at hz; omega)
    have e2 : (1 + (n.ptrs.length : Int) + n.data.length) = (sizN n : Nat) := by unfold sizN; omega
    rw [e2] at w2
    simp [h]
    refine callW_of hc (by simp) ?_
    generalize hsz' : sizN n = sz at *
    unfold stStep
    generalize clsF x i = fr at *
    generalize clsK x i cycle = k at *
    have u1 := wrap_i ((s.n1 : Int) + sz) (by omega) (by omega)
    have u2 := wrap_i ((s.n2 : Int) + sz) (by omega) (by omega)
    have u3 := wrap_i ((s.n3 : Int) + sz) (by omega) (by omega)
    have u4 := wrap_i ((s.n4 : Int) + sz) (by omega) (by omega)
    have u5 := wrap_i ((s.wt : Int) + sz) (by omega) (by omega)
    have l1 : s.here.length + 1 ≤ lim := by simp [lim]; omega
    have l2 : s.old.length + 1 ≤ lim := by simp [lim]; omega
    rcases hkr with rfl | rfl | ⟨rfl, rfl⟩
    · cases cycle <;> simp [hn, at_of hn, w1, e2, w2, aiV, aputV, setCells, wrap_i, u1, u2, u3, u4, u5, l1, l2, plV, hw]
    · cases cycle
      · simp [hn, at_of hn, w1, e2, w2, aiV, aputV, setCells, wrap_i, u1, u2, u3, u4, u5, l1, l2, plV, hw]
      · cases fr <;> simp [hn, at_of hn, w1, e2, w2, aiV, aputV, setCells, wrap_i, u1, u2, u3, u4, u5, l1, l2, plV, hw]
    · cases fr <;> simp [hn, at_of hn, w1, e2, w2, aiV, aputV, setCells, wrap_i, u1, u2, u3, u4, u5, l1, l2, plV, hw]
  · have : i = g.nodes.length := by omega
    subst this
    generalize hs8 : stN x cycle g g.nodes.length = s at *
    have hpt := pick11_vc (c := x.to) (n := 2) hx.to (by omega)
    have hps := pick11_vc (c := x.slack) (n := 12) hx.slack (by omega)
    have hsl := pick_lt (c := x.slack) (n := 12) (by omega)
    simp
    refine callW_of hpt (by simp) ?_
    have q1 : s.n1 ≤ lim := by simp [lim]; omega
    have q2 : s.n2 ≤ lim := by simp [lim]; omega
    have q3 : s.n3 ≤ lim := by simp [lim]; omega
    have q4 : s.n4 ≤ lim := by simp [lim]; omega
    simp [aiV, q1, q2, q3, q4]
    refine callW_of hps (by simp) ?_
    have w1 := wrap_i ((s.n1 : Int) + s.n2) (by omega) (by omega)
    have w2 := wrap_i ((s.n1 : Int) + s.n2 + s.wt) (by omega) (by omega)
    have w3 := wrap_i ((s.n3 : Int) + s.n4) (by omega) (by omega)
    have hmax : (if (s.n1 : Int) + s.n2 + s.wt < (s.n3 : Int) + s.n4 then (s.n3 : Int) + s.n4 else (s.n1 : Int) + s.n2 + s.wt) = max ((s.n1 : Int) + s.n2 + s.wt) ((s.n3 : Int) + s.n4) := by split <;> omega
    obtain ⟨cap, hcap⟩ : ∃ cap : Int, max ((s.n1 : Int) + s.n2 + s.wt) ((s.n3 : Int) + s.n4) + pick x.slack 12 = cap := ⟨_, rfl⟩
    have hc0 : 0 ≤ cap ∧ cap ≤ 200 := by omega
    have w4 := wrap_i cap (by omega) (by omega)
    have w5 := wrap_u cap (by omega) (by omega)
    have w6 := wrap_u (2 * cap) (by omega) (by omega)
    have w7 := wrap_u (9223372036854775808 - 2 * cap) (by omega) (by omega)
    obtain ⟨b1, b2⟩ := hx.base
    have w8 : x.base.tmod (9223372036854775808 - 2 * cap) = x.base % (9223372036854775808 - 2 * cap) := Int.tmod_eq_emod_of_nonneg b1
    have h1 := Int.emod_nonneg x.base (show (9223372036854775808 - 2 * cap) ≠ 0 by omega)
    have h2 := Int.emod_lt_of_pos x.base (show 0 < (9223372036854775808 - 2 * cap) by omega)
    have w9 := wrap_u (1 + x.base % (9223372036854775808 - 2 * cap)) (by omega) (by omega)
    have hne : ¬ ((9223372036854775808 - 2 * cap) = 0) := by omega
    simp [aiV, w1, w2, w3, hmax, hcap, w4, w5, w6, w7, w8, w9, hne]
    cases cycle
    · simp [btV, hcap]
    · by_cases h0 : 0 < s.n1
      · have hp := pick11_vc (c := x.scan) (n := (s.n1 : Int)) hx.scan (by omega)
        simp [h0]
        refine callW_of hp (by simp) ?_
        simp [btV, hcap, h0, aiV]
      · simp [btV, hcap, h0]
end Vm
/-
  Heaps that are made of raw numbers: their words.
-/
namespace Vm
open Go Go.Proofs
set_option linter.unusedSimpArgs false
set_option linter.unusedVariables false
set_option maxRecDepth 100000
set_option maxHeartbeats 1000000
@[simp] theorem szV_btV (b : Bt) : szV (btV b) 14 = some (btV b) := rfl
@[simp] theorem btV_cells (b : Bt) : (btV b).cells = btC b := rfl
@[simp] theorem fldV_btV (b : Bt) (i : Nat) : fldV (btV b) i = (btC b)[i]?.bind oneV := rfl
theorem packW_range (s p : Int) : 0 ≤ (packW s p).1 ∧ (packW s p).1 < 100000000 := by
  unfold packW
  split
  · rename_i h
    obtain ⟨h1, h2, h3, h4⟩ := shapeOk_iff.1 h
    simp only; omega
  · simp
theorem addrL_range (l : Ly) (hl : l.fits) (p a : Int) : 0 ≤ (addrL l p a).1 ∧ (addrL l p a).1 ≤ 9223372036854775807 := by
  unfold addrL
  split
  · simp
  · rename_i hr
    have hr' : rightL l = true := by simpa using hr
    split
    · simp
    · split
      · simp
      · have := fstL_range hr' p
        simp only; omega
theorem ptrTo_range {a : Int} : 0 ≤ (ptrTo a).1 ∧ (ptrTo a).1 < 18446744073709551616 := by
  unfold ptrTo
  split
  · simp
  · simp only; omega
/-- the pointer to a place -/
def refB (h : Hp) (p : Pl) : Int := if p.part = 0 then 0 else (ptrTo (addrL (layH h) p.part p.at_).1).1
theorem refB_range (h : Hp) (p : Pl) : U64 (refB h p) := by
  unfold refB
  split
  · exact ⟨by omega, by omega⟩
  · exact ptrTo_range
theorem refB_vc {b : Bt} (hb : (layH b.h).fits) {p : Pl} : VC Try.prog 87 false [btV b, plV p] (vu (refB b.h p)) := by
  refine vc_of_wp Try.func87 follows (by kernel_rfl) c87 rfl ?_
  by_cases h0 : p.part = 0
  · simp [p87, btC, refB, h0]
  · have hr := addrL_range (layH b.h) hb p.part p.at_
    simp [p87, btC, h0]
    refine callW_of (refLayout_vc (h := b.h)) (by simp [hpV]) ?_
    simp
    refine callW_of (refAddrL_vc hb (part := p.part) (at_ := p.at_)) (by simp) ?_
    simp
    refine callW_of (refPtrTo_vc (a := (addrL (layH b.h) p.part p.at_).1) ⟨hr.1, by omega⟩) (by simp) ?_
    simp [refB, h0]
/-- the word of a pointer to a node, where it stands at a place -/
def slotB (b : Bt) (p : Pl) (to tw : Int) : Int :=
  if to < 0 then 0 else if 2 < p.part then refB b.h ((b.old[to.toNat]?).getD ⟨0, 0⟩)
  else if p.part = 1 ∧ b.h.scan ≤ p.at_ ∧ (((b.here[to.toNat]?).getD ⟨0, 0⟩).part = 0 ∨ 0 < ((b.old[to.toNat]?).getD ⟨0, 0⟩).part ∧ tw % 2 = 0) then refB b.h ((b.old[to.toNat]?).getD ⟨0, 0⟩)
  else refB b.h ((b.here[to.toNat]?).getD ⟨0, 0⟩)
theorem slotB_range (b : Bt) (p : Pl) (to tw : Int) : U64 (slotB b p to tw) := by
  unfold slotB
  split
  · exact ⟨by omega, by omega⟩
  split
  · exact refB_range _ _
  split <;> exact refB_range _ _
theorem tmod2 (t : Int) : t.tmod 2 = 0 ↔ t % 2 = 0 := by
  rw [Int.tmod_eq_emod]
  split <;> omega
theorem slotB_vc {b : Bt} (hb : (layH b.h).fits) {p : Pl} {to tw : Int} (h1 : to < b.here.length) (h2 : to < b.old.length) : VC Try.prog 101 false [btV b, plV p, vi to, vi tw] (vu (slotB b p to tw)) := by
  refine vc_of_wp Try.func101 follows (by kernel_rfl) c101 rfl ?_
  by_cases h0 : to < 0
  · simp [p101, btC, slotB, h0]
  obtain ⟨t, rfl⟩ := Int.eq_ofNat_of_zero_le (show 0 ≤ to by omega)
  have g1 : b.here[t]? = some (b.here[t]'(by omega)) := List.getElem?_eq_getElem (by omega)
  have g2 : b.old[t]? = some (b.old[t]'(by omega)) := List.getElem?_eq_getElem (by omega)
  generalize b.here[t]'(by omega) = x at *
  generalize b.old[t]'(by omega) = y at *
  unfold slotB
  simp only [Int.toNat_natCast, g1, g2, Option.getD_some, if_neg h0]
  by_cases q1 : 2 < p.part
  · simp [p101, btC, q1, g2]
    refine callW_of (refB_vc hb (p := y)) (by simp [btV]) ?_
    simp
  have k1 := refB_vc hb (p := x)
  have k2 := refB_vc hb (p := y)
  by_cases q2 : p.part = 1
  · by_cases q3 : b.h.scan ≤ p.at_
    · by_cases q4 : x.part = 0
      · simp [p101, btC, q1, q2, q3, q4, g1, g2]
        refine callW_of k2 (by simp [btV]) ?_
        simp
      · by_cases q5 : 0 < y.part
        · by_cases q6 : tw % 2 = 0
          · have q6' := (tmod2 tw).2 q6
            simp [p101, btC, q1, q2, q3, q4, q5, q6, q6', g1, g2]
            refine callW_of k2 (by simp [btV]) ?_
            simp
          · have q6' := mt (tmod2 tw).1 q6
            simp [p101, btC, q1, q2, q3, q4, q5, q6, q6', g1, g2]
            refine callW_of k1 (by simp [btV]) ?_
            simp
        · simp [p101, btC, q1, q2, q3, q4, q5, g1, g2]
          refine callW_of k1 (by simp [btV]) ?_
          simp
    · simp [p101, btC, q1, q2, q3, g1, g2]
      refine callW_of k1 (by simp [btV]) ?_
      simp
  · simp [p101, btC, q1, q2, g1, g2]
    refine callW_of k1 (by simp [btV]) ?_
    simp
@[simp] theorem put_vu (x y : Int) : V.put (vu x) 0 [vu y] = vu y := rfl
theorem set_step {l pre : List Int} {m : Nat} (h : pre.length = m) (hm : m < l.length) (z : Int) : (pre ++ l.drop m).set m z = pre ++ [z] ++ l.drop (m + 1) := by
  subst h
  rw [List.set_append_right _ _ (Nat.le_refl _), Nat.sub_self, List.drop_eq_getElem_cons hm, List.set_cons_zero, List.append_assoc]
  rfl
/-- a part's words, of which a node's are laid at a place -/
def slotsB (b : Bt) (p : Pl) (a : Nat) (ps : List Int) (tw : Int) : List Int := (List.range ps.length).map fun i => slotB b ⟨p.part, ((a + 1 + i : Nat) : Int)⟩ ((ps[i]?).getD 0) (IntKind.i64.wrap (tw + i))
def layL (b : Bt) (p : Pl) (a : Nat) (n : Nd) (tw : Int) : List Int :=
  let l := partH b.h p.part
  l.take a ++ [(packW ((n.ptrs.length : Int) + n.data.length) n.ptrs.length).1] ++ slotsB b p a n.ptrs tw ++ n.data ++ l.drop (a + sizN n)
def layB (b : Bt) (p : Pl) (n : Nd) (tw : Int) : Bt := { b with h := withH b.h p.part (layL b p p.at_.toNat n tw) }
theorem lay_vc {b : Bt} (hb : (layH b.h).fits) {p : Pl} {n : Nd} {tw : Int} {a : Nat} (ha : p.at_ = a) (hlen : (partH b.h p.part).length ≤ 1000000) (hfit : a + sizN n ≤ (partH b.h p.part).length)
    (h1 : ∀ q ∈ n.ptrs, q < b.here.length ∧ q < b.old.length) : VC Try.prog 86 false [btV b, plV p, ndV n, vi tw] (btV (layB b p n tw)) := by
  refine vc_of_wp Try.func86 follows (by kernel_rfl) c86 rfl ?_
  have hlim : (partH b.h p.part).length ≤ lim := by simp [lim]; omega
  have w1 := wrap_i ((n.ptrs.length : Int) + n.data.length) (by unfold sizN at hfit; omega) (by unfold sizN at hfit; omega)
  unfold layB
  rw [show p.at_.toNat = a by omega]
  simp [p86, btC]
  refine callW_of (Part_vc (h := b.h) (n := p.part)) (by simp [hpV]) ?_
  simp [hlim, w1]
  refine callW_of (refPack_vc (s := (n.ptrs.length : Int) + n.data.length) (p := n.ptrs.length)) (by simp) ?_
  have hpl : a < (partH b.h p.part).length := by unfold sizN at hfit; omega
  simp [ha, hpl]
  generalize hl0 : partH b.h p.part = l at *
  generalize hhd : (packW ((n.ptrs.length : Int) + n.data.length) n.ptrs.length).1 = hd at *
  have hset0 : (l.map vu).set a (vu hd) = ((l.take a ++ [hd]) ++ l.drop (a + 1)).map vu := by
    rw [← List.map_set]
    congr 1
    have := set_step (l := l) (pre := l.take a) (m := a) (by simp; omega) hpl hd
    rw [List.take_append_drop] at this
    exact this
  simp only [put_vu, hset0]
  have hw1 := wrap_i ((a : Int) + 1) (by omega) (by omega)
  have hnp : n.ptrs.length ≤ l.length := by unfold sizN at hfit; omega
  have hsl : (slotsB b p a n.ptrs tw).length = n.ptrs.length := by simp [slotsB]
  refine wpS_for 11 n.ptrs.length (fun k => [(8, .v (.sl (((l.take a ++ [hd] ++ (slotsB b p a n.ptrs tw).take k) ++ l.drop (a + 1 + k)).map vu))), (11, .v (vi k))]) (fun _ => True) (by simp) (fun i => by simp) trivial ?_
  rintro k hk -
  have hwk := wrap_i ((k : Int) + 1) (by omega) (by omega)
  have hw2 := wrap_i ((a : Int) + 1 + k) (by omega) (by omega)
  by_cases hkl : k < n.ptrs.length
  · have hq : n.ptrs[k]? = some n.ptrs[k] := List.getElem?_eq_getElem hkl
    obtain ⟨q1, q2⟩ := h1 _ (List.getElem_mem hkl)
    have hslot := slotB_vc hb (p := ⟨p.part, ((a + 1 + k : Nat) : Int)⟩) (to := n.ptrs[k]) (tw := IntKind.i64.wrap (tw + k)) q1 q2
    have hsk : (slotsB b p a n.ptrs tw)[k]? = some (slotB b ⟨p.part, ((a + 1 + k : Nat) : Int)⟩ n.ptrs[k] (IntKind.i64.wrap (tw + k))) := by
      simp [slotsB, hkl]
    generalize n.ptrs[k] = q at *
    generalize slotB b ⟨p.part, ((a + 1 + k : Nat) : Int)⟩ q (IntKind.i64.wrap (tw + k)) = z at *
    have htk : (slotsB b p a n.ptrs tw).take (k + 1) = (slotsB b p a n.ptrs tw).take k ++ [z] := by rw [List.take_add_one, hsk]; rfl
    have hpre : (l.take a ++ [hd] ++ (slotsB b p a n.ptrs tw).take k).length = a + 1 + k := by simp [hsl]; omega
    have hm : a + 1 + k < l.length := by unfold sizN at hfit; omega
    have hst := set_step (l := l) hpre hm z
    generalize hpp : l.take a ++ [hd] ++ (slotsB b p a n.ptrs tw).take k = pre at *
    have hall : ∃ x, ((pre ++ l.drop (a + 1 + k)).map vu)[a + 1 + k]? = some (vu x) := by
      refine ⟨l[a + 1 + k], ?_⟩
      rw [List.getElem?_map, List.getElem?_append_right (by omega), hpre, Nat.sub_self, List.drop_eq_getElem_cons hm]
      rfl
    have hset : ((pre ++ l.drop (a + 1 + k)).map vu).set (a + 1 + k) (vu z) = (pre ++ [z] ++ l.drop (a + 1 + (k + 1))).map vu := by
      rw [← List.map_set, hst]; rfl
    obtain ⟨m, hmn⟩ : ∃ m : Nat, a + 1 + k = m := ⟨_, rfl⟩
    have hmi : (a : Int) + 1 + k = m := by omega
    have hwm := wrap_i (m : Int) (by omega) (by omega)
    rw [show a + 1 + (k + 1) = a + 1 + k + 1 by omega] at hset ⊢
    rw [hmn] at hall hset hslot ⊢
    generalize hLL : (pre ++ l.drop m).map vu = LL at hall hset ⊢
    rw [htk]
    obtain ⟨y, hy⟩ := hall
    simp [hkl, hq, at_of hq, hw1, hw2, hmi, hwm]
    refine callW_of hslot (by simp [btV]) ?_
    simp [hy, hset, hwk, hkl, hw1, hmi, hwm]
    rw [← hpp]
    simp
  · have : k = n.ptrs.length := by omega
    subst this
    rw [show (slotsB b p a n.ptrs tw).take n.ptrs.length = slotsB b p a n.ptrs tw from List.take_of_length_le (by omega)]
    have hw3 := wrap_i ((a : Int) + 1 + n.ptrs.length) (by omega) (by omega)
    have hw4 : ∀ j : Nat, j ≤ 1000 + n.data.length → IntKind.i64.wrap ((a : Int) + 1 + n.ptrs.length + j) = (a : Int) + 1 + n.ptrs.length + j := fun j hj => wrap_i _ (by omega) (by unfold sizN at hfit; omega)
    generalize hsp : l.take a ++ [hd] ++ slotsB b p a n.ptrs tw = sp at *
    have hspl : sp.length = a + 1 + n.ptrs.length := by rw [← hsp]; simp [hsl]; omega
    simp
    refine wpS_for 13 n.data.length (fun k => [(8, .v (.sl (((sp ++ n.data.take k) ++ l.drop (a + 1 + n.ptrs.length + k)).map vu))), (13, .v (vi k))]) (fun _ => True) (by simp) (fun i => by simp) trivial ?_
    rintro k hk -
    have hwk := wrap_i ((k : Int) + 1) (by omega) (by unfold sizN at hfit; omega)
    by_cases hkl : k < n.data.length
    · have hq : n.data[k]? = some n.data[k] := List.getElem?_eq_getElem hkl
      generalize n.data[k] = z at *
      have htk : n.data.take (k + 1) = n.data.take k ++ [z] := by rw [List.take_add_one, hq]; rfl
      have hpre : (sp ++ n.data.take k).length = a + 1 + n.ptrs.length + k := by simp [hspl]; omega
      have hm : a + 1 + n.ptrs.length + k < l.length := by unfold sizN at hfit; omega
      have hst := set_step (l := l) hpre hm z
      generalize hpp : sp ++ n.data.take k = pre at *
      have hall : ∃ x, ((pre ++ l.drop (a + 1 + n.ptrs.length + k)).map vu)[a + 1 + n.ptrs.length + k]? = some (vu x) := by
        refine ⟨l[a + 1 + n.ptrs.length + k], ?_⟩
        rw [List.getElem?_map, List.getElem?_append_right (by omega), hpre, Nat.sub_self, List.drop_eq_getElem_cons hm]
        rfl
      have hset : ((pre ++ l.drop (a + 1 + n.ptrs.length + k)).map vu).set (a + 1 + n.ptrs.length + k) (vu z) = (pre ++ [z] ++ l.drop (a + 1 + n.ptrs.length + k + 1)).map vu := by
        rw [← List.map_set, hst]
      rw [show a + 1 + n.ptrs.length + (k + 1) = a + 1 + n.ptrs.length + k + 1 by omega]
      have hw5 := hw4 k (by omega)
      obtain ⟨m, hmn⟩ : ∃ m : Nat, a + 1 + n.ptrs.length + k = m := ⟨_, rfl⟩
      have hmi : (a : Int) + 1 + n.ptrs.length + k = m := by omega
      have hwm := wrap_i (m : Int) (by omega) (by omega)
      rw [hmn] at hall hset ⊢
      generalize hLL : (pre ++ l.drop m).map vu = LL at hall hset ⊢
      rw [htk]
      obtain ⟨y, hy⟩ := hall
      simp [hkl, hq, at_of hq, hw1, hw3, hw5, hmi, hwm, hy, hset, hwk]
      rw [← hpp]
      simp
    · have : k = n.data.length := by omega
      subst this
      rw [show n.data.take n.data.length = n.data from List.take_length]
      have hwith := With_vc (h := b.h) (n := p.part) (l := sp ++ n.data ++ l.drop (a + 1 + n.ptrs.length + n.data.length))
      have hlay : layL b p a n tw = sp ++ n.data ++ l.drop (a + 1 + n.ptrs.length + n.data.length) := by
        unfold layL
        rw [hl0, hhd]
        dsimp only
        rw [hsp, show a + sizN n = a + 1 + n.ptrs.length + n.data.length by unfold sizN; omega]
      rw [hlay]
      generalize sp ++ n.data ++ l.drop (a + 1 + n.ptrs.length + n.data.length) = fin at *
      simp
      refine callW_of hwith (by simp [hpV]) ?_
      simp [btV]
end Vm
/-
  Heaps that are made of raw numbers: filled; the whole.
-/
namespace Vm
open Go Go.Proofs
set_option linter.unusedSimpArgs false
set_option linter.unusedVariables false
set_option maxRecDepth 100000
set_option maxHeartbeats 1000000
def wOk (h : Hp) : Prop := (∀ k, ∀ w ∈ partH h k, U64 w) ∧ ∀ w ∈ h.roots, U64 w
structure BOk (b : Bt) : Prop where
  lay : (layH b.h).fits
  hl : b.here.length = b.g.nodes.length
  ol : b.old.length = b.g.nodes.length
  nn : b.g.nodes.length ≤ 10
  ptr : ∀ n ∈ b.g.nodes, ∀ q ∈ n.ptrs, q < (b.g.nodes.length : Int)
  dat : ∀ n ∈ b.g.nodes, ∀ q ∈ n.data, U64 q
  rts : ∀ q ∈ b.g.roots, q < (b.g.nodes.length : Int)
  rl : b.g.roots.length ≤ 5
  here : ∀ (i : Nat) (p : Pl) (n : Nd), b.here[i]? = some p → b.g.nodes[i]? = some n → p = ⟨0, 0⟩ ∨ ∃ a : Nat, p.at_ = a ∧ (p.part = 1 ∨ p.part = 2) ∧ a + sizN n ≤ (partH b.h p.part).length
  old : ∀ (i : Nat) (p : Pl) (n : Nd), b.old[i]? = some p → b.g.nodes[i]? = some n → p = ⟨0, 0⟩ ∨ ∃ a : Nat, p.at_ = a ∧ (p.part = 3 ∨ p.part = 4) ∧ a + sizN n ≤ (partH b.h p.part).length
  len : ∀ k, (partH b.h k).length ≤ 1000
  words : wOk b.h
theorem partH_len {h h' : Hp} (hl : layH h' = layH h) (k : Int) : (partH h' k).length = (partH h k).length := by
  simp only [layH, Ly.mk.injEq] at hl
  unfold partH
  split
  · omega
  split
  · omega
  split <;> omega
theorem BOk.keep {b : Bt} (hb : BOk b) {h' : Hp} (hl : layH h' = layH b.h) (hw : wOk h') : BOk { b with h := h' } where
  lay := by show (layH h').fits; rw [hl]; exact hb.lay
  hl := hb.hl
  ol := hb.ol
  nn := hb.nn
  ptr := hb.ptr
  dat := hb.dat
  rts := hb.rts
  rl := hb.rl
  here := fun i p n hp hn => by
    rcases hb.here i p n hp hn with h | ⟨a, h1, h2, h3⟩
    · exact .inl h
    · exact .inr ⟨a, h1, h2, by show _ ≤ (partH h' p.part).length; rw [partH_len hl]; exact h3⟩
  old := fun i p n hp hn => by
    rcases hb.old i p n hp hn with h | ⟨a, h1, h2, h3⟩
    · exact .inl h
    · exact .inr ⟨a, h1, h2, by show _ ≤ (partH h' p.part).length; rw [partH_len hl]; exact h3⟩
  len := fun k => by show (partH h' k).length ≤ 1000; rw [partH_len hl]; exact hb.len k
  words := hw
theorem withH_lay {h : Hp} {p : Int} {l : List Int} (hl : l.length = (partH h p).length) : layH (withH h p l) = layH h := by
  unfold withH partH at *
  split
  · rename_i e; rw [if_pos e] at hl; simp [layH, hl]
  rename_i e1
  rw [if_neg e1] at hl
  split
  · rename_i e; rw [if_pos e] at hl; simp [layH, hl]
  rename_i e2
  rw [if_neg e2] at hl
  split
  · rename_i e; rw [if_pos e] at hl; simp [layH, hl]
  · rename_i e3; rw [if_neg e3] at hl; simp [layH, hl]
theorem withH_words {h : Hp} {p : Int} {l : List Int} (hh : wOk h) (hl : ∀ w ∈ l, U64 w) : wOk (withH h p l) := by
  have h1 := hh.1 1
  have h2 := hh.1 2
  have h3 := hh.1 3
  have h4 := hh.1 4
  simp only [partH1, partH2, partH3, partH4] at h1 h2 h3 h4
  have key : ∀ h' : Hp, (∀ w ∈ h'.low, U64 w) → (∀ w ∈ h'.high, U64 w) → (∀ w ∈ h'.old, U64 w) → (∀ w ∈ h'.far, U64 w) → (∀ w ∈ h'.roots, U64 w) → wOk h' := fun h' k1 k2 k3 k4 k5 => by
    refine ⟨fun k => ?_, k5⟩
    unfold partH
    split
    · exact k1
    split
    · exact k2
    split
    · exact k3
    · exact k4
  unfold withH
  split
  · exact key _ hl h2 h3 h4 hh.2
  split
  · exact key _ h1 hl h3 h4 hh.2
  split
  · exact key _ h1 h2 hl h4 hh.2
  · exact key _ h1 h2 h3 hl hh.2
theorem layL_length {b : Bt} {p : Pl} {a : Nat} {n : Nd} {tw : Int} (hf : a + sizN n ≤ (partH b.h p.part).length) : (layL b p a n tw).length = (partH b.h p.part).length := by
  unfold layL
  unfold sizN at *
  simp [slotsB]
  omega
theorem layL_words {b : Bt} {p : Pl} {a : Nat} {n : Nd} {tw : Int} (hw : wOk b.h) (hn : ∀ q ∈ n.data, U64 q) : ∀ w ∈ layL b p a n tw, U64 w := by
  intro w hm
  unfold layL at hm
  simp only [List.mem_append, List.mem_singleton] at hm
  rcases hm with (((hm | hm) | hm) | hm) | hm
  · exact hw.1 _ w (List.mem_of_mem_take hm)
  · subst hm
    have := packW_range ((n.ptrs.length : Int) + n.data.length) n.ptrs.length
    exact ⟨this.1, by omega⟩
  · simp only [slotsB, List.mem_map] at hm
    obtain ⟨i, _, rfl⟩ := hm
    exact slotB_range _ _ _ _
  · exact hn w hm
  · exact hw.1 _ w (List.mem_of_mem_drop hm)
/-- one node's words are laid -/
def fillA (x : Rw) (b : Bt) (i : Nat) (n : Nd) (p : Pl) : Bt := if 0 < p.part then layB b p n (IntKind.i64.wrap (x.slack + i)) else b
def fillO (b : Bt) (n : Nd) (p o : Pl) : Bt := if 0 < o.part ∧ p.part = 0 then layB b o n 0 else b
def fillG (b : Bt) (p o : Pl) : Bt := if 0 < o.part ∧ 0 < p.part then { b with h := withH b.h o.part ((partH b.h o.part).set o.at_.toNat (refB b.h p)) } else b
def fillS (x : Rw) (b : Bt) (i : Nat) : Bt :=
  let n := (b.g.nodes[i]?).getD default
  let p := (b.here[i]?).getD ⟨0, 0⟩
  let o := (b.old[i]?).getD ⟨0, 0⟩
  fillG (fillO (fillA x b i n p) n p o) p o
/-- but for words, b' is as b -/
structure Like (b b' : Bt) : Prop where
  g : b'.g = b.g
  here : b'.here = b.here
  old : b'.old = b.old
  lay : layH b'.h = layH b.h
  words : wOk b'.h
  scan : b'.h.scan = b.h.scan
  cycle : b'.h.cycle = b.h.cycle
theorem Like.ok {b b' : Bt} (hl : Like b b') (hb : BOk b) : BOk b' := by
  obtain ⟨h', g', here', old'⟩ := b'
  obtain ⟨h1, h2, h3, h4, h5, _⟩ := hl
  simp only at h1 h2 h3 h4 h5
  subst h1 h2 h3
  exact hb.keep h4 h5
theorem Like.trans {a b c : Bt} (h : Like a b) (k : Like b c) : Like a c := ⟨k.g.trans h.g, k.here.trans h.here, k.old.trans h.old, k.lay.trans h.lay, k.words, k.scan.trans h.scan, k.cycle.trans h.cycle⟩
theorem withH_scan (h : Hp) (p : Int) (l : List Int) : (withH h p l).scan = h.scan ∧ (withH h p l).cycle = h.cycle := by
  unfold withH
  split
  · exact ⟨rfl, rfl⟩
  split
  · exact ⟨rfl, rfl⟩
  split <;> exact ⟨rfl, rfl⟩
theorem like_with {b : Bt} (hb : BOk b) {p : Int} {l : List Int} (hl : l.length = (partH b.h p).length) (hw : ∀ w ∈ l, U64 w) : Like b { b with h := withH b.h p l } :=
  ⟨rfl, rfl, rfl, withH_lay hl, withH_words hb.words hw, (withH_scan _ _ _).1, (withH_scan _ _ _).2⟩
theorem like_refl {b : Bt} (hb : BOk b) : Like b b := ⟨rfl, rfl, rfl, rfl, hb.words, rfl, rfl⟩
theorem like_lay {b : Bt} (hb : BOk b) {p : Pl} {n : Nd} {tw : Int} {a : Nat} (ha : p.at_ = a) (hf : a + sizN n ≤ (partH b.h p.part).length) (hn : ∀ q ∈ n.data, U64 q) : Like b (layB b p n tw) := by
  unfold layB
  rw [ha, Int.toNat_natCast]
  exact like_with hb (layL_length hf) (layL_words hb.words hn)
theorem like_A {x : Rw} {b : Bt} (hb : BOk b) {i : Nat} {n : Nd} {p : Pl} (hn : b.g.nodes[i]? = some n) (hp : b.here[i]? = some p) : Like b (fillA x b i n p) := by
  unfold fillA
  split
  · rename_i h0
    rcases hb.here i p n hp hn with rfl | ⟨a, h1, h2, h3⟩
    · simp at h0
    · exact like_lay hb h1 h3 (hb.dat n (List.mem_of_getElem? hn))
  · exact like_refl hb
theorem like_O {b : Bt} (hb : BOk b) {i : Nat} {n : Nd} {p o : Pl} (hn : b.g.nodes[i]? = some n) (ho : b.old[i]? = some o) : Like b (fillO b n p o) := by
  unfold fillO
  split
  · rename_i h0
    rcases hb.old i o n ho hn with rfl | ⟨a, h1, h2, h3⟩
    · simp at h0
    · exact like_lay hb h1 h3 (hb.dat n (List.mem_of_getElem? hn))
  · exact like_refl hb
theorem like_G {b : Bt} (hb : BOk b) {p o : Pl} : Like b (fillG b p o) := by
  unfold fillG
  split
  · refine like_with hb (by simp) fun w hw => ?_
    rcases List.mem_or_eq_of_mem_set hw with h | rfl
    · exact hb.words.1 _ w h
    · exact refB_range _ _
  · exact like_refl hb
theorem like_S {x : Rw} {b : Bt} (hb : BOk b) {i : Nat} (hi : i < b.g.nodes.length) : Like b (fillS x b i) := by
  have hn : b.g.nodes[i]? = some b.g.nodes[i] := List.getElem?_eq_getElem hi
  have hp : b.here[i]? = some (b.here[i]'(by rw [hb.hl]; exact hi)) := List.getElem?_eq_getElem _
  have ho : b.old[i]? = some (b.old[i]'(by rw [hb.ol]; exact hi)) := List.getElem?_eq_getElem _
  unfold fillS
  simp only [hn, hp, ho, Option.getD_some]
  have h1 := like_A (x := x) hb hn hp
  have h2 := like_O (p := b.here[i]'(by rw [hb.hl]; exact hi)) (h1.ok hb) (by rw [h1.g]; exact hn) (by rw [h1.old]; exact ho)
  exact (h1.trans h2).trans (like_G (h2.ok (h1.ok hb)))
def fillN (x : Rw) (b : Bt) : Nat → Bt
  | 0 => b
  | i + 1 => fillS x (fillN x b i) i
theorem like_N {x : Rw} {b : Bt} (hb : BOk b) : ∀ i, i ≤ b.g.nodes.length → Like b (fillN x b i)
  | 0, _ => like_refl hb
  | i + 1, hi => by
    have h := like_N (x := x) hb i (by omega)
    exact h.trans (like_S (h.ok hb) (by rw [h.g]; omega))
def fillH (x : Rw) (b : Bt) : Hp :=
  let b' := fillN x b b.g.nodes.length
  { b'.h with roots := b.g.roots.map fun r => if 0 ≤ r then refB b'.h ((b.here[r.toNat]?).getD ⟨0, 0⟩) else 0 }
theorem btV_eq (b : Bt) : V.agg (btC b) = btV b := rfl
theorem fill_vc {x : Rw} (hx : x.ok) {b : Bt} (hb : BOk b) : VC Try.prog 52 false [btV b, rwV x] (hpV (fillH x b)) := by
  refine vc_of_wp Try.func52 follows (by kernel_rfl) c52 rfl ?_
  simp [p52, btC]
  refine wpS_for 5 b.g.nodes.length (fun i => [(2, .m (btC (fillN x b i))), (5, .v (vi i))]) (fun _ => True) (by simp [fillN, btC]) (fun i => by simp) trivial ?_
  rintro i hi -
  have hlk := like_N (x := x) hb i hi
  have hw := wrap_i ((i : Int) + 1) (by have := hb.nn; omega) (by have := hb.nn; omega)
  by_cases h : i < b.g.nodes.length
  · have hb' := hlk.ok hb
    simp only [fillN]
    have hi' : i < (fillN x b i).g.nodes.length := by rw [hlk.g]; exact h
    generalize hbb : fillN x b i = c at *
    have hn : c.g.nodes[i]? = some c.g.nodes[i] := List.getElem?_eq_getElem hi'
    have hp : c.here[i]? = some (c.here[i]'(by rw [hb'.hl]; exact hi')) := List.getElem?_eq_getElem _
    have ho : c.old[i]? = some (c.old[i]'(by rw [hb'.ol]; exact hi')) := List.getElem?_eq_getElem _
    unfold fillS
    simp only [hn, hp, ho, Option.getD_some]
    generalize c.g.nodes[i] = n at *
    generalize c.here[i]'(by rw [hb'.hl]; exact hi') = p at *
    generalize c.old[i]'(by rw [hb'.ol]; exact hi') = o at *
    have hpn : ∀ q ∈ n.ptrs, q < (c.here.length : Int) ∧ q < (c.old.length : Int) := fun q hq => by
      have := hb'.ptr n (List.mem_of_getElem? hn) q hq
      rw [hb'.hl, hb'.ol]; exact ⟨this, this⟩
    have kA := like_A (x := x) hb' hn hp
    have bA := kA.ok hb'
    have kO := like_O (p := p) bA (by rw [kA.g]; exact hn) (by rw [kA.old]; exact ho)
    have bO := kO.ok bA
    have hgl : c.g.nodes.length = b.g.nodes.length := by rw [hlk.g]
    have hge : c.g = b.g := hlk.g
    have hlay : 0 < p.part → VC Try.prog 86 false [btV c, plV p, ndV n, vi (IntKind.i64.wrap (x.slack + i))] (btV (layB c p n (IntKind.i64.wrap (x.slack + i)))) := fun h0 => by
      rcases hb'.here i p n hp hn with rfl | ⟨a, h1, h2, h3⟩
      · simp at h0
      · exact lay_vc hb'.lay h1 (by have := hb'.len p.part; omega) h3 hpn
    have hlayO : 0 < o.part → VC Try.prog 86 false [btV c, plV o, ndV n, vi 0] (btV (layB c o n 0)) := fun h0 => by
      rcases hb'.old i o n ho hn with rfl | ⟨a, h1, h2, h3⟩
      · simp at h0
      · exact lay_vc hb'.lay h1 (by have := hb'.len o.part; omega) h3 hpn
    have hpp : p.part = 0 ∨ 0 < p.part := by
      rcases hb'.here i p n hp hn with rfl | ⟨a, h1, h2, h3⟩
      · exact .inl rfl
      · exact .inr (by omega)
    have hoo : o.part = 0 ∨ 0 < o.part := by
      rcases hb'.old i o n ho hn with rfl | ⟨a, h1, h2, h3⟩
      · exact .inl rfl
      · exact .inr (by omega)
    rcases hpp with hp0 | hp0
    · rcases hoo with ho0 | ho0
      · simp [btC, h, hi', hgl, hn, hp, ho, at_of hn, at_of hp, at_of ho, fillA, fillO, fillG, hp0, ho0, hw]
      · have hne : ¬ 0 < p.part := by omega
        have hlk2 : Like c (layB c o n 0) := by
          have := like_O (p := p) hb' hn ho
          unfold fillO at this
          rwa [if_pos ⟨ho0, hp0⟩] at this
        have hlO := hlayO ho0
        simp [btC, h, hi', hgl, hn, hp, ho, at_of hn, at_of hp, at_of ho, fillA, fillO, fillG, hp0, ho0, hw]
        generalize layB c o n 0 = d at *
        obtain ⟨d1, d2, d3, d4, d5, _, _⟩ := hlk2
        refine callW_of hlO (by simp [btV]) ?_
        simp [btC, d1, d2, d3, hn, hp, ho, at_of hn, at_of hp, at_of ho, hp0, ho0, hw, h]
    · have hne0 : ¬ p.part = 0 := by omega
      have hlk2 : Like c (layB c p n (IntKind.i64.wrap (x.slack + i))) := by
        have := like_A (x := x) hb' hn hp
        unfold fillA at this
        rwa [if_pos hp0] at this
      have hlA := hlay hp0
      have bd := hlk2.ok hb'
      rcases hoo with ho0 | ho0
      · simp [btC, h, hi', hgl, hn, hp, ho, at_of hn, at_of hp, at_of ho, fillA, fillO, fillG, hp0, ho0, hne0, hw]
        generalize layB c p n (IntKind.i64.wrap (x.slack + i)) = d at *
        obtain ⟨d1, d2, d3, d4, d5, _, _⟩ := hlk2
        refine callW_of hlA (by simp [btV]) ?_
        simp [btC, d1, d2, d3, hn, hp, ho, at_of hn, at_of hp, at_of ho, hp0, ho0, hne0, hw, h]
      · simp [btC, h, hi', hgl, hn, hp, ho, at_of hn, at_of hp, at_of ho, fillA, fillO, fillG, hp0, ho0, hne0, hw]
        generalize layB c p n (IntKind.i64.wrap (x.slack + i)) = d at *
        obtain ⟨d1, d2, d3, d4, d5, _, _⟩ := hlk2
        refine callW_of hlA (by simp [btV]) ?_
        simp [btC, d1, d2, d3, hn, hp, ho, at_of hn, at_of hp, at_of ho, hp0, ho0, hne0, hw, h]
        rcases hb'.old i o n ho hn with rfl | ⟨a, h1, h2, h3⟩
        · simp at ho0
        have hdl := bd.len o.part
        have hlim : (partH d.h o.part).length ≤ lim := by simp [lim]; omega
        have hal : a < (partH d.h o.part).length := by
          have := partH_len d4 o.part
          unfold sizN at h3
          omega
        refine callW_of (Part_vc (h := d.h) (n := o.part)) (by simp [hpV]) ?_
        simp [hlim, hp]
        refine callW_of (refB_vc (b := ⟨d.h, c.g, c.here, c.old⟩) bd.lay (p := p)) (by simp) ?_
        simp [h1, hal, ho, at_of ho]
        have hwith := With_vc (h := d.h) (n := o.part) (l := (partH d.h o.part).set a (refB d.h p))
        rw [List.map_set] at hwith
        refine callW_of hwith (by simp [hpV]) ?_
        simp [hw, h, d1, d2, d3]
  · have : i = b.g.nodes.length := by omega
    subst this
    have bd := hlk.ok hb
    unfold fillH
    generalize fillN x b b.g.nodes.length = d at *
    obtain ⟨d1, d2, d3, d4, d5, _, _⟩ := hlk
    simp [btC, d1, d2, d3]
    refine wpS_for 13 b.g.roots.length (fun k => [(12, .v (.sl ((b.g.roots.take k).map fun r => vu (if 0 ≤ r then refB d.h ((b.here[r.toNat]?).getD ⟨0, 0⟩) else 0)))), (13, .v (vi k))]) (fun _ => True) (by simp) (fun i => by simp) trivial ?_
    rintro k hk -
    have hrl := hb.rl
    have hwk := wrap_i ((k : Int) + 1) (by omega) (by omega)
    by_cases hkl : k < b.g.roots.length
    · have hr : b.g.roots[k]? = some b.g.roots[k] := List.getElem?_eq_getElem hkl
      have hrn := hb.rts _ (List.getElem_mem hkl)
      generalize b.g.roots[k] = r at *
      have htk : b.g.roots.take (k + 1) = b.g.roots.take k ++ [r] := by rw [List.take_add_one, hr]; rfl
      have hlim : min k b.g.roots.length + 1 ≤ lim := by simp [lim]; omega
      by_cases h0 : 0 ≤ r
      · obtain ⟨q, rfl⟩ := Int.eq_ofNat_of_zero_le h0
        have hq : b.here[q]? = some (b.here[q]'(by rw [hb.hl]; omega)) := List.getElem?_eq_getElem _
        generalize b.here[q]'(by rw [hb.hl]; omega) = p at *
        simp [hkl, hr, at_of hr, hq, at_of hq]
        refine callW_of (refB_vc (b := ⟨d.h, b.g, b.here, b.old⟩) bd.lay (p := p)) (by simp) ?_
        simp [hwk, hlim, hkl]
        rw [List.take_add_one, List.getElem?_map, hr]
        simp [hq]
      · simp [hkl, hr, at_of hr, h0, hwk, hlim, htk, hkl]
    · have : k = b.g.roots.length := by omega
      subst this
      simp [hpV]
end Vm
/-
  Heaps that are made of raw numbers: the whole.
-/
namespace Vm
open Go Go.Proofs
set_option linter.unusedSimpArgs false
set_option linter.unusedVariables false
set_option maxRecDepth 100000
set_option maxHeartbeats 1000000
/-- a place of a node of so many words, where parts have so many -/
def PIn (s : St8) (p : Pl) (sz : Nat) : Prop := p = ⟨0, 0⟩ ∨ ∃ a : Nat, p.at_ = a ∧ ((p.part = 1 ∧ a + sz ≤ s.n1) ∨ (p.part = 2 ∧ a + sz ≤ s.n2))
def POl (s : St8) (p : Pl) (sz : Nat) : Prop := p = ⟨0, 0⟩ ∨ ∃ a : Nat, p.at_ = a ∧ ((p.part = 3 ∧ a + sz ≤ s.n3) ∨ (p.part = 4 ∧ a + sz ≤ s.n4))
theorem stStep_le {x : Rw} {cycle : Bool} {sz i : Nat} {s : St8} : s.n1 ≤ (stStep x cycle sz i s).n1 ∧ s.n2 ≤ (stStep x cycle sz i s).n2 ∧ s.n3 ≤ (stStep x cycle sz i s).n3 ∧ s.n4 ≤ (stStep x cycle sz i s).n4 := by
  unfold stStep
  refine ⟨?_, ?_, ?_, ?_⟩ <;> dsimp only <;> split <;> omega
theorem PIn.mono {s t : St8} {p : Pl} {sz : Nat} (h : PIn s p sz) (h1 : s.n1 ≤ t.n1) (h2 : s.n2 ≤ t.n2) : PIn t p sz := by
  rcases h with h | ⟨a, ha, ⟨hp, h⟩ | ⟨hp, h⟩⟩
  · exact .inl h
  · exact .inr ⟨a, ha, .inl ⟨hp, by omega⟩⟩
  · exact .inr ⟨a, ha, .inr ⟨hp, by omega⟩⟩
theorem POl.mono {s t : St8} {p : Pl} {sz : Nat} (h : POl s p sz) (h1 : s.n3 ≤ t.n3) (h2 : s.n4 ≤ t.n4) : POl t p sz := by
  rcases h with h | ⟨a, ha, ⟨hp, h⟩ | ⟨hp, h⟩⟩
  · exact .inl h
  · exact .inr ⟨a, ha, .inl ⟨hp, by omega⟩⟩
  · exact .inr ⟨a, ha, .inr ⟨hp, by omega⟩⟩
theorem st_places {x : Rw} {cycle : Bool} {g : Gr} (hg : ∀ n ∈ g.nodes, sizN n ≤ 9) : ∀ i, i ≤ g.nodes.length → ∀ (j : Nat) (n : Nd), g.nodes[j]? = some n →
    (∀ p, (stN x cycle g i).here[j]? = some p → PIn (stN x cycle g i) p (sizN n)) ∧ (∀ p, (stN x cycle g i).old[j]? = some p → POl (stN x cycle g i) p (sizN n))
  | 0, _, j, n, hn => ⟨fun p hp => by simp [stN] at hp, fun p hp => by simp [stN] at hp⟩
  | i + 1, hi, j, n, hn => by
    obtain ⟨h1, h2⟩ := st_places (x := x) (cycle := cycle) hg i (by omega) j n hn
    obtain ⟨_, _, l1, l2⟩ := stN_bound (x := x) (cycle := cycle) hg i (by omega)
    have hgi : g.nodes[i]? = some g.nodes[i] := List.getElem?_eq_getElem (by omega)
    simp only [stN, hgi, Option.getD_some]
    generalize stN x cycle g i = s at *
    obtain ⟨q1, q2, q3, q4⟩ := stStep_le (x := x) (cycle := cycle) (sz := sizN g.nodes[i]) (i := i) (s := s)
    have hjl : j < g.nodes.length := (List.getElem?_eq_some_iff.1 hn).1
    constructor
    · intro p hp
      by_cases hj : j < i
      · have : s.here[j]? = some p := by
          simp only [stStep] at hp
          rwa [List.getElem?_append_left (by omega)] at hp
        exact (h1 p this).mono q1 q2
      · by_cases hji : j = i
        · subst hji
          rw [hgi] at hn
          cases hn
          simp only [stStep] at hp
          rw [List.getElem?_append_right (by omega), l1, Nat.sub_self] at hp
          simp only [List.getElem?_cons_zero, Option.some.injEq] at hp
          subst hp
          unfold PIn
          rcases clsK_range x j cycle with hk | hk | ⟨hk, rfl⟩
          · refine .inr ⟨s.n2, by simp [hk], .inr ⟨by simp [hk], by simp [stStep, hk]⟩⟩
          · refine .inr ⟨s.n1, by simp [hk], .inl ⟨by simp [hk], by simp [stStep, hk]⟩⟩
          · exact .inl (by simp [hk])
        · simp only [stStep] at hp
          have := (List.getElem?_eq_some_iff.1 hp).1
          simp at this
          omega
    · intro p hp
      by_cases hj : j < i
      · have : s.old[j]? = some p := by
          simp only [stStep] at hp
          rwa [List.getElem?_append_left (by omega)] at hp
        exact (h2 p this).mono q3 q4
      · by_cases hji : j = i
        · subst hji
          rw [hgi] at hn
          cases hn
          simp only [stStep] at hp
          rw [List.getElem?_append_right (by omega), l2, Nat.sub_self] at hp
          simp only [List.getElem?_cons_zero, Option.some.injEq] at hp
          subst hp
          unfold POl
          by_cases ho : (decide (0 < clsK x j cycle) && cycle) = true
          · cases hf : clsF x j
            · refine .inr ⟨s.n3, by simp [ho], .inl ⟨by simp [ho], by simp [stStep, ho, hf]⟩⟩
            · refine .inr ⟨s.n4, by simp [ho], .inr ⟨by simp [ho], by simp [stStep, ho, hf]⟩⟩
          · exact .inl (by simp only [ho]; rfl)
        · simp only [stStep] at hp
          have := (List.getElem?_eq_some_iff.1 hp).1
          simp at this
          omega
theorem mkG_ptr (l : List Nd) (roots : List Int) : ∀ n ∈ (mkG l roots).nodes, ∀ q ∈ n.ptrs, -1 ≤ q ∧ q < ((mkG l roots).nodes.length : Int) := by
  intro n hn q hq
  rw [mkG_nodes]
  simp only [mkG, List.mem_map] at hn
  obtain ⟨y, _, rfl⟩ := hn
  simp only [mkNd, List.mem_map] at hq
  obtain ⟨p, _, rfl⟩ := hq
  exact rp_in
theorem mkG_rts (l : List Nd) (roots : List Int) : ∀ q ∈ (mkG l roots).roots, -1 ≤ q ∧ q < ((mkG l roots).nodes.length : Int) := by
  intro q hq
  rw [mkG_nodes]
  simp only [mkG] at hq
  split at hq
  · simp at hq
    omega
  · simp only [List.mem_map] at hq
    obtain ⟨p, _, rfl⟩ := hq
    exact rp_in
theorem mkG_dat (l : List Nd) (roots : List Int) (hl : ∀ n ∈ l, ∀ q ∈ n.data, U64 q) : ∀ n ∈ (mkG l roots).nodes, ∀ q ∈ n.data, U64 q := by
  intro n hn q hq
  simp only [mkG, List.mem_map] at hn
  obtain ⟨y, hy, rfl⟩ := hn
  simp only [mkNd] at hq
  exact hl y (List.mem_of_mem_take hy) q (List.mem_of_mem_take hq)
theorem stand_ok {x : Rw} (hx : x.ok) (cycle : Bool) : BOk (standB x cycle) ∧ Fit (standB x cycle).h.scan ∧ rightL (layH (standB x cycle).h) = true := by
  obtain ⟨hb1, hb2, hb3⟩ := mkG_bounds x.nodes x.roots
  have hb5 := mkG_nodes x.nodes x.roots
  have hp := mkG_ptr x.nodes x.roots
  have hr := mkG_rts x.nodes x.roots
  have hd := mkG_dat x.nodes x.roots hx.data
  unfold standB
  generalize mkG x.nodes x.roots = g at *
  have hsz : ∀ n ∈ g.nodes, sizN n ≤ 9 := fun n hn => by have := hb3 n hn; unfold sizN; omega
  obtain ⟨s1, s2, s3, s4⟩ := stN_bound (x := x) (cycle := cycle) hsz g.nodes.length (Nat.le_refl _)
  have hpl := st_places (x := x) (cycle := cycle) hsz g.nodes.length (Nat.le_refl _)
  dsimp only
  generalize stN x cycle g g.nodes.length = s at *
  have hsl := pick_lt (c := x.slack) (n := 12) (by omega)
  have hto := pick_lt (c := x.to) (n := 2) (by omega)
  obtain ⟨cap, hcap⟩ : ∃ cap : Int, max ((s.n1 : Int) + s.n2 + s.wt) ((s.n3 : Int) + s.n4) + pick x.slack 12 = cap := ⟨_, rfl⟩
  rw [hcap]
  have hc0 : 0 ≤ cap ∧ cap ≤ 200 := by omega
  have h1 := Int.emod_nonneg x.base (show (9223372036854775808 - 2 * cap) ≠ 0 by omega)
  have h2 := Int.emod_lt_of_pos x.base (show 0 < (9223372036854775808 - 2 * cap) by omega)
  generalize x.base % (9223372036854775808 - 2 * cap) = base at *
  have hscan : Fit (if cycle = true ∧ 0 < s.n1 then pick x.scan s.n1 else s.n1) := by
    split
    · rename_i h
      have := pick_lt (c := x.scan) (n := s.n1) (by omega)
      exact ⟨by omega, by omega⟩
    · exact ⟨by omega, by omega⟩
  refine ⟨⟨?_, ?_, ?_, ?_, ?_, ?_, ?_, ?_, ?_, ?_, ?_, ?_⟩, hscan, ?_⟩
  · refine ⟨⟨?_, ?_⟩, ⟨?_, ?_⟩, ⟨?_, ?_⟩, ⟨?_, ?_⟩, ⟨?_, ?_⟩, ⟨?_, ?_⟩, ⟨?_, ?_⟩⟩ <;> simp [layH] <;> omega
  · exact s3
  · exact s4
  · show g.nodes.length ≤ 10
    omega
  · exact fun n hn q hq => (hp n hn q hq).2
  · exact hd
  · exact fun q hq => (hr q hq).2
  · exact hb2
  · intro i p n hpi hni
    rcases (hpl i n hni).1 p hpi with h | ⟨a, ha, ⟨hpp, h⟩ | ⟨hpp, h⟩⟩
    · exact .inl h
    · exact .inr ⟨a, ha, .inl hpp, by rw [hpp]; simpa using h⟩
    · exact .inr ⟨a, ha, .inr hpp, by rw [hpp]; simpa using h⟩
  · intro i p n hpi hni
    rcases (hpl i n hni).2 p hpi with h | ⟨a, ha, ⟨hpp, h⟩ | ⟨hpp, h⟩⟩
    · exact .inl h
    · exact .inr ⟨a, ha, .inl hpp, by rw [hpp]; simpa using h⟩
    · exact .inr ⟨a, ha, .inr hpp, by rw [hpp]; simpa using h⟩
  · intro k
    unfold partH
    split
    · simp; omega
    split
    · simp; omega
    split <;> simp <;> omega
  · refine ⟨fun k => ?_, by simp⟩
    have hrep : ∀ m : Nat, ∀ w ∈ List.replicate m (0 : Int), U64 w := fun m w hw => by
      have := (List.mem_replicate.1 hw).2
      subst this
      exact ⟨by omega, by omega⟩
    unfold partH
    split
    · exact hrep _
    split
    · exact hrep _
    split <;> exact hrep _
  · refine rightL_iff.2 ?_
    simp only [layH, List.length_replicate]
    omega
def stillX (x : Rw) : Hp := fillH x (standB x false)
def heapX (x : Rw) : Hp := if (standB x true).h.low.length = 0 then stillX x else fillH x (standB x true)
theorem Still_vc {x : Rw} (hx : x.ok) : VC Try.prog 45 false [rwV x] (hpV (stillX x)) := by
  refine vc_of_wp Try.func45 follows (by kernel_rfl) c45 rfl ?_
  simp [p45]
  refine callW_of (stand_vc hx (cycle := false)) (by simp [rwV]) ?_
  simp
  refine callW_of (fill_vc hx (stand_ok hx false).1) (by simp) ?_
  simp
  rfl
theorem Heap_vc {x : Rw} (hx : x.ok) : VC Try.prog 16 false [rwV x] (hpV (heapX x)) := by
  refine vc_of_wp Try.func16 follows (by kernel_rfl) c16 rfl ?_
  simp [p16]
  refine callW_of (stand_vc hx (cycle := true)) (by simp [rwV]) ?_
  unfold heapX
  by_cases h0 : (standB x true).h.low.length = 0
  · simp [btC, h0]
    refine callW_of (Still_vc hx) (by simp) ?_
    simp
    rfl
  · simp [btC, h0]
    refine callW_of (fill_vc hx (stand_ok hx true).1) (by simp) ?_
    simp
    rfl
theorem fillH_ok {x : Rw} {b : Bt} (hb : BOk b) (hs : Fit b.h.scan) : (fillH x b).ok ∧ layH (fillH x b) = layH b.h ∧ (fillH x b).scan = b.h.scan ∧ (fillH x b).cycle = b.h.cycle := by
  have hl := like_N (x := x) hb b.g.nodes.length (Nat.le_refl _)
  have bd := hl.ok hb
  unfold fillH
  generalize fillN x b b.g.nodes.length = d at *
  obtain ⟨h1, h2, h3, h4, h5, h6, h7, h8, h9, h10, h11, h12⟩ := bd
  have l1 := h11 1
  have l2 := h11 2
  have l3 := h11 3
  have l4 := h11 4
  have w1 := h12.1 1
  have w2 := h12.1 2
  have w3 := h12.1 3
  have w4 := h12.1 4
  simp only [partH1, partH2, partH3, partH4] at l1 l2 l3 l4 w1 w2 w3 w4
  have hrl := hb.rl
  refine ⟨⟨h1.1, h1.2.1, h1.2.2.1, by rw [hl.scan]; exact hs, ?_, ?_, ?_, ?_, ?_, w1, w2, w3, w4, ?_⟩, hl.lay, hl.scan, hl.cycle⟩
  · show d.h.low.length ≤ _; omega
  · show d.h.high.length ≤ _; omega
  · show d.h.old.length ≤ _; omega
  · show d.h.far.length ≤ _; omega
  · simp; omega
  · intro w hw
    simp only [List.mem_map] at hw
    obtain ⟨r, _, rfl⟩ := hw
    split
    · exact refB_range _ _
    · exact ⟨by omega, by omega⟩
end Vm
