/-
  Canons: canon.moved, canon.canon; Canon, Order, Alike.
-/
import Derived.Test.YtbmgnmjghhakhaaWd
import Derived.Test.YtbmgnmjghhakhaaWc
namespace Vm
open Go Go.Proofs
set_option maxRecDepth 100000
set_option linter.unusedSimpArgs false
set_option linter.unusedVariables false
def at0 (l : List Int) (p : Int) : Int := match l.findIdx? (· == p) with
  | some i => (i : Nat)
  | none => 0
def movedL (l ps : List Int) : List Int := ps.map fun p => if 0 ≤ p then at0 l p else p
def canonNd (g : Gr) (l : List Int) (x : Int) : Nd := let n := (g.nodes[x.toNat]?).getD default; ⟨movedL l n.ptrs, n.data⟩
def canon (g : Gr) : Gr := ⟨(order g).map (canonNd g (order g)), movedL (order g) g.roots⟩
theorem lkV_at0 {id : Nat} {l : List Int} {x : Int} : lkV (.i .i64) (atM id l) (vi x) (vi 0) false = some (vi (at0 l x)) := by
  rw [lkV_at]
  unfold at0
  cases l.findIdx? (· == x) <;> simp
theorem flat_vi {l : List Int} : ∀ c ∈ flat (l.map vi), c.flatc = true := by
  intro c hc
  simp only [flat, List.mem_flatMap, List.mem_map] at hc
  obtain ⟨y, ⟨a, _, rfl⟩, hc⟩ := hc
  have : c = vi a := by simpa [V.cells] using hc
  subst this; rfl
theorem moved_vc {ps l : List Int} {id : Nat} (hp : ps.length ≤ 100000) : VC Try.prog 58 true [.sl (ps.map vi), atM id l] (.sl ((movedL l ps).map vi)) := by
  refine vc_fresh (t := 4) (ty := 3) Try.func58 follows (by kernel_rfl) rfl c58 rfl flat_vi ?_
  simp [p58]
  refine wpS_loop (fun t => ∃ i : Nat, i ≤ ps.length ∧ t = [.v (.sl (ps.map vi)), .v (atM id l), .v (.sl []), .v (.sl ((movedL l (ps.take i)).map vi)), .v (vi i), .v (vi ps.length), .no, .no, .v (.sl (ps.map vi))]) (fun t => match get t 4 with | .v (.int _ n) => ps.length - n.toNat | _ => 0) ?_ ?_
  · exact ⟨0, by simp, by simp [movedL]⟩
  · rintro t ⟨i, hi, rfl⟩
    by_cases h : i < ps.length
    · have hx : ps[i]? = some ps[i] := List.getElem?_eq_getElem h
      have hstep : movedL l (ps.take (i + 1)) = movedL l (ps.take i) ++ [if 0 ≤ ps[i] then at0 l ps[i] else ps[i]] := by
        unfold movedL
        rw [List.take_add_one, hx, List.map_append]; rfl
      have hlen : (movedL l (ps.take i)).length ≤ 100000 := by simp [movedL]; omega
      simp [h]
      simp (disch := omega) only [wrap_i]
      by_cases h0 : 0 ≤ ps[i]
      · simp [h0, lkV_at0]
        refine ⟨by simp [lim]; omega, ⟨i + 1, by omega, by rw [hstep]; simp [h0], by simp⟩, by omega⟩
      · simp [h0]
        refine ⟨by simp [lim]; omega, ⟨i + 1, by omega, by rw [hstep]; simp [h0], by simp⟩, by omega⟩
    · have : i = ps.length := by omega
      subst this
      simp
theorem orderL_good {g : Gr} (hr : right g = true) : ∀ {f i : Nat} {l : List Int}, Good g.nodes.length l → Good g.nodes.length (orderL g f i l)
  | 0, i, l, h => h
  | f + 1, i, l, h => by
    simp only [orderL]
    split
    · rename_i x hx
      refine orderL_good hr (noteL_good h fun y hy => ?_)
      obtain ⟨x0, x1⟩ := h.2 x (List.mem_of_getElem? hx)
      have hlt : x.toNat < g.nodes.length := by omega
      rw [List.getElem?_eq_getElem hlt] at hy
      exact (right_ptrs hr _ (List.getElem_mem hlt) y hy).2
    · exact h
theorem order_good {g : Gr} (hr : right g = true) : Good g.nodes.length (order g) :=
  orderL_good hr (noteL_good ⟨by simp, by simp⟩ fun x hx => (right_roots hr x hx).2)
theorem canon_vcm {g : Gr} (hg : g.sm) (hr : right g = true) (id : Nat) (ks vs : List V) : VCM Try.prog 42 [.fz, .own 72] [grV g, .mp id ks vs] (.tup [grV (canon g), atM id (order g)]) := by
  refine vcm_of_wp Try.func42 follows (by kernel_rfl) c42 (by kernel_rfl) ?_
  simp [p42]
  refine callWM_of (order_vcm hg hr id ks vs) ?_
  simp
  obtain ⟨hg1, hg2, hg3⟩ := hg
  have hgood := order_good hr
  have hlen := hgood.len
  generalize ho : order g = l at hgood hlen
  refine wpS_loop (fun t => ∃ i : Nat, i ≤ l.length ∧ t = [.v (grV g), .v (atM id l), .m [.sl (g.nodes.map ndV), .sl (g.roots.map vi)], .m [.sl [], .sl []], .m [.sl (((l.take i).map (canonNd g l)).map ndV), .sl []], .v (vi i), .v (vi l.length), .no, .no, .v (.sl (l.map vi))]) (fun t => match get t 5 with | .v (.int _ n) => l.length - n.toNat | _ => 0) ?_ ?_
  · exact ⟨0, by simp, by simp⟩
  · rintro t ⟨i, hi, rfl⟩
    by_cases h : i < l.length
    · have hx : l[i]? = some l[i] := List.getElem?_eq_getElem h
      obtain ⟨x0, x1⟩ := hgood.2 _ (List.getElem_mem h)
      obtain ⟨k, hk⟩ := Int.eq_ofNat_of_zero_le x0
      have hkl : k < g.nodes.length := by omega
      obtain ⟨s1, s2⟩ := hg3 _ (List.getElem_mem hkl)
      simp [h, hk, hkl]
      refine callW_of (moved_vc s1) (by simp) ?_
      simp
      simp (disch := omega) only [wrap_i]
      have hnd : V.agg [V.sl (List.map vi (movedL l g.nodes[k].ptrs)), V.sl (List.map vu g.nodes[k].data)] = ndV (canonNd g l l[i]) := by
        simp [canonNd, hk, hkl, ndV]
      refine ⟨by simp [lim]; omega, by simp [lim]; omega, ⟨i + 1, by omega, ?_, by simp⟩, by omega⟩
      rw [List.take_add_one, List.getElem?_map, hx, hnd]; rfl
    · have : i = l.length := by omega
      subst this
      simp
      refine callW_of (moved_vc hg2) (by simp) ?_
      simp
      simp [canon, grV, ho]

theorem canon_sm {g : Gr} (hg : g.sm) (hr : right g = true) : (canon g).sm := by
  obtain ⟨hg1, hg2, hg3⟩ := hg
  have hgood := order_good hr
  have hlen := hgood.len
  refine ⟨by simp [canon]; omega, by simpa [canon, movedL] using hg2, fun n hn => ?_⟩
  simp only [canon, List.mem_map] at hn
  obtain ⟨x, hx, rfl⟩ := hn
  obtain ⟨x0, x1⟩ := hgood.2 x hx
  have hlt : x.toNat < g.nodes.length := by omega
  have := hg3 _ (List.getElem_mem hlt)
  simpa [canonNd, hlt, movedL] using this
def noGr : Gr := ⟨[], []⟩
def canonR (g : Gr) : V := if right g = true then .tup [grV (canon g), vi 0] else .tup [grV noGr, vi 1]
theorem Canon_vc {g : Gr} (hg : g.sm) : VC Try.prog 20 false [grV g] (canonR g) := by
  refine vc_of_wp Try.func20 follows (by kernel_rfl) c20 rfl ?_
  simp [p20]
  refine callW_of (right_vc hg) (by simp) ?_
  cases hr : right g
  · simp [canonR, hr, noGr, grV]
  · simp
    refine callWM_of (canon_vcm hg hr 0 [] []) ?_
    simp [canonR, hr]
    simp [grV]
def orderR (g : Gr) : List Int := if right g = true then order g else []
theorem Order_vc {g : Gr} (hg : g.sm) : VC Try.prog 23 false [grV g] (.sl ((orderR g).map vi)) := by
  refine vc_of_wp Try.func23 follows (by kernel_rfl) c23 rfl ?_
  simp [p23]
  refine callW_of (right_vc hg) (by simp) ?_
  cases hr : right g
  · simp [orderR, hr]
  · simp
    refine callWM_of (order_vcm hg hr 0 [] []) ?_
    simp [orderR, hr]
def alike (a b : Gr) : Bool := right a && right b && decide (canon a = canon b)
theorem Alike_vc {a b : Gr} (ha : a.sm) (hb : b.sm) : VC Try.prog 26 false [grV a, grV b] (.bool (alike a b)) := by
  refine vc_of_wp Try.func26 follows (by kernel_rfl) c26 rfl ?_
  simp [p26]
  refine callW_of (right_vc ha) (by simp) ?_
  cases hra : right a
  · simp [alike, hra]
  · simp
    refine callW_of (right_vc hb) (by simp) ?_
    cases hrb : right b
    · simp [alike, hrb]
    · simp
      refine callWM_of (canon_vcm ha hra 0 [] []) ?_
      simp
      refine callWM_of (canon_vcm hb hrb 0 _ _) ?_
      have hsa := canon_sm ha hra
      simp
      refine callW_of (equalI_vc hsa.2.1) (by simp) ?_
      by_cases h : (canon a).roots = (canon b).roots
      · simp [h]
        refine callW_of (equalFunc_vc hsa.1 hsa.2.2) (by simp) ?_
        simp [alike, hra, hrb]
        generalize canon a = x at h
        generalize canon b = y at h
        cases x; cases y
        simp at h
        simp [h]
      · simp [h, alike, hra, hrb]
        intro e
        exact h (by rw [e])
/-- the reference's own: graphs are the same, node by node -/
theorem Same_vc {a b : Gr} (ha : a.sm) : VC Try.prog 25 false [grV a, grV b] (.bool (decide (a = b))) := by
  refine vc_of_wp Try.func25 follows (by kernel_rfl) c25 rfl ?_
  obtain ⟨h1, h2, h3⟩ := ha
  simp [p25]
  refine callW_of (ints_vc h2) (by simp) ?_
  by_cases hr : a.roots = b.roots
  · simp [hr]
    by_cases hl : a.nodes.length = b.nodes.length
    · simp [hl]
      refine wpS_loop (fun t => ∃ i : Nat, i ≤ b.nodes.length ∧ a.nodes.take i = b.nodes.take i ∧ t = [.v (grV a), .v (grV b), .m [.sl (a.nodes.map ndV), .sl (a.roots.map vi)], .m [.sl (b.nodes.map ndV), .sl (b.roots.map vi)], .v (.bool false), .v (.bool true), .v (.bool false), .v (vi i)]) (fun t => match get t 7 with | .v (.int _ n) => b.nodes.length - n.toNat | _ => 0) ?_ ?_
      · exact ⟨0, by simp, by simp, by simp [hr]⟩
      · rintro t ⟨i, hi, heq, rfl⟩
        by_cases h : i < b.nodes.length
        · have h' : i < a.nodes.length := by omega
          obtain ⟨s1, s2⟩ := h3 _ (List.getElem_mem h')
          simp [h, h', hl]
          refine callW_of (ints_vc s1) (by simp) ?_
          simp [h, h', hl]
          refine callW_of (nums_vc s2) (by simp) ?_
          by_cases hp : a.nodes[i].ptrs = b.nodes[i].ptrs
          · by_cases hd : a.nodes[i].data = b.nodes[i].data
            · simp [hp, hd]
              simp (disch := omega) only [wrap_i]
              have hx : a.nodes[i] = b.nodes[i] := by
                generalize a.nodes[i] = x at hp hd
                generalize b.nodes[i] = y at hp hd
                cases x; cases y; simp at hp hd; simp [hp, hd]
              exact ⟨⟨i + 1, by omega, take_succ_eq heq (by simp [h, h', hx]), by simp⟩, by omega⟩
            · simp [hp, hd]
              intro e; subst e; exact hd rfl
          · simp [hp]
            intro e; subst e; exact hp rfl
        · have : i = b.nodes.length := by omega
          subst this
          rw [List.take_length, List.take_of_length_le (by omega)] at heq
          simp [hl]
          cases a; cases b
          simp at heq hr
          simp [heq, hr]
    · simp [show ¬ ((a.nodes.length : Int) = (b.nodes.length : Int)) by omega]
      intro e; subst e; exact hl rfl
  · simp [hr]
    intro e; subst e; exact hr rfl
end Vm
