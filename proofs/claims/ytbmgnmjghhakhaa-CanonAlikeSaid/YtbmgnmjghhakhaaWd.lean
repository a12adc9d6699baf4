/-
  The order of live nodes: canon.order and its closure.
-/
import Derived.Test.YtbmgnmjghhakhaaWb
namespace Vm
open Go Go.Proofs
set_option maxRecDepth 100000
set_option linter.unusedSimpArgs false
set_option linter.unusedVariables false
/-- numbers 0, 1, .. as a map's values -/
def upto (n : Nat) : List V := (List.range n).map fun (i : Nat) => vi i
/-- where a node stands in an order, in a map -/
def atM (id : Nat) (l : List Int) : V := .mp id (l.map vi) (upto l.length)
def noteL : List Int → List Int → List Int
  | acc, [] => acc
  | acc, x :: l => noteL (if 0 ≤ x ∧ x ∉ acc then acc ++ [x] else acc) l
theorem findV_vi {x : Int} : ∀ {l : List Int}, findV (vi x) (l.map vi) = some (l.findIdx? (· == x))
  | [] => rfl
  | y :: l => by
    simp only [List.map_cons, findV, keyEq, if_true, List.findIdx?_cons]
    by_cases h : x = y
    · subst h; simp
    · have h2 : (x == y) = false := by simpa using h
      have h3 : (y == x) = false := by simpa using Ne.symm h
      simp [h2, h3, findV_vi]
theorem findIdx_none {x : Int} {l : List Int} : l.findIdx? (· == x) = none ↔ x ∉ l := by
  rw [List.findIdx?_eq_none_iff]
  constructor
  · intro h hm; have := h x hm; simp at this
  · intro h y hy; simp; intro e; subst e; exact h hy
theorem lkV_at {id : Nat} {l : List Int} {x : Int} {z : V} {ok : Bool} : lkV (.i .i64) (atM id l) (vi x) z ok = match l.findIdx? (· == x) with
    | some i => some (if ok then .tup [vi i, .bool true] else vi i)
    | none => some (if ok then .tup [z, .bool false] else z) := by
  unfold lkV atM
  simp only [isK, decide_true, Bool.true_eq_false, if_false, findV_vi]
  cases h : l.findIdx? (· == x) with
  | none => rfl
  | some i =>
    have hlt : i < l.length := by
      have := List.findIdx?_eq_some_iff_getElem.1 h
      exact this.1
    simp [upto, hlt]
theorem mputV_at {id : Nat} {l : List Int} {x : Int} (hx : x ∉ l) : mputV (.i .i64) (atM id l) (vi x) (vi l.length) = some (atM id (l ++ [x])) := by
  unfold mputV atM
  simp only [isK, decide_true, Bool.true_eq_false, if_false, findV_vi, findIdx_none.2 hx]
  simp [upto, List.range_succ]
@[simp] theorem oneV_at (id : Nat) (l : List Int) : oneV (atM id l) = some (atM id l) := rfl

theorem note_vcm {ns acc : List Int} {id : Nat} (hns : ns.length ≤ 100000) (hacc : acc.length ≤ 1000000) : VCM Try.prog 60 [.fz, .mem [.own 72], .mem [.own 3]] [.sl (ns.map vi), .agg [atM id acc], .agg [.sl (acc.map vi)]]
   (.tup [.tup [], .agg [atM id (noteL acc ns)], .agg [.sl ((noteL acc ns).map vi)]]) := by
  refine vcm_of_wp Try.func60 follows (by kernel_rfl) c60 (by kernel_rfl) ?_
  simp [p60]
  refine wpS_loop (fun t => ∃ i l, i ≤ ns.length ∧ noteL l (ns.drop i) = noteL acc ns ∧ l.length ≤ 1000000 + i ∧ t = [.v (.sl (ns.map vi)), .m [atM id l], .m [.sl (l.map vi)], .v (vi (i : Nat)), .v (vi ns.length), .no, .no, .v (.sl (ns.map vi))]) (fun t => match get t 3 with | .v (.int _ n) => ns.length - n.toNat | _ => 0) ?_ ?_
  · exact ⟨0, acc, by simp, by simp, by omega, by simp⟩
  · rintro t ⟨i, l, hi, hn, hl, rfl⟩
    by_cases h : i < ns.length
    · have hd : ns.drop i = ns[i] :: ns.drop (i + 1) := (List.drop_eq_getElem_cons h)
      rw [hd, noteL] at hn
      simp [h, lkV_at]
      by_cases hm : ns[i] ∈ l
      · have hsome : ∃ j, l.findIdx? (· == ns[i]) = some j := by
          cases hj : l.findIdx? (· == ns[i]) with
          | none => exact absurd hm (findIdx_none.1 hj)
          | some j => exact ⟨j, rfl⟩
        obtain ⟨j, hj⟩ := hsome
        simp [hj, flV, V.flatc]
        simp (disch := omega) only [wrap_i]
        rw [if_neg (by simp [hm])] at hn
        exact ⟨⟨i + 1, by omega, l, hn, by omega, rfl, rfl, by simp⟩, by omega⟩
      · simp [findIdx_none.2 hm, flV, V.flatc]
        simp (disch := omega) only [wrap_i]
        by_cases h0 : 0 ≤ ns[i]
        · rw [if_pos h0, mputV_at hm]
          rw [if_pos ⟨h0, hm⟩] at hn
          simp
          refine ⟨by simp [lim]; omega, ⟨i + 1, by omega, l ++ [ns[i]], hn, by simp; omega, rfl, by simp, by simp⟩, by omega⟩
        · rw [if_neg h0]
          rw [if_neg (by simp [h0])] at hn
          exact ⟨⟨i + 1, by omega, l, hn, by omega, rfl, rfl, by simp⟩, by omega⟩
    · have : i = ns.length := by omega
      subst this
      simp [noteL] at hn
      subst hn
      simp

@[simp] theorem cells_at (id : Nat) (l : List Int) : (atM id l).cells = [atM id l] := rfl
/-- nodes of a graph, each once -/
def Good (n : Nat) (l : List Int) : Prop := l.Nodup ∧ ∀ x ∈ l, 0 ≤ x ∧ x < n
theorem nodup_le : ∀ (n : Nat) {l : List Int}, l.Nodup → (∀ x ∈ l, 0 ≤ x ∧ x < n) → l.length ≤ n
  | 0, l, _, h => by
    cases l with
    | nil => simp
    | cons x l => have := h x (by simp); omega
  | n + 1, l, hn, h => by
    by_cases hm : (n : Int) ∈ l
    · have h1 := nodup_le n (hn.erase (n : Int)) fun x hx => by
        have hx' := (hn.mem_erase_iff).1 hx
        have := h x hx'.2
        omega
      rw [List.length_erase_of_mem hm] at h1
      omega
    · have := nodup_le n hn fun x hx => by
        have h1 := h x hx
        have : x ≠ n := fun e => hm (e ▸ hx)
        omega
      omega
theorem Good.len {n : Nat} {l : List Int} (h : Good n l) : l.length ≤ n := nodup_le n h.1 h.2
theorem noteL_good {n : Nat} : ∀ {ns acc : List Int}, Good n acc → (∀ x ∈ ns, x < n) → Good n (noteL acc ns)
  | [], acc, h, _ => h
  | x :: ns, acc, h, hx => by
    simp only [noteL]
    refine noteL_good ?_ fun y hy => hx y (by simp [hy])
    split
    · rename_i hc
      refine ⟨?_, fun y hy => ?_⟩
      · rw [List.nodup_append]
        exact ⟨h.1, by simp, fun a ha b hb => by simp at hb; subst hb; exact fun e => hc.2 (e ▸ ha)⟩
      · rcases List.mem_append.1 hy with hy | hy
        · exact h.2 y hy
        · simp at hy; subst hy; exact ⟨hc.1, hx _ (by simp)⟩
    · exact h
/-- the order's loop: at place i of l -/
def orderL (g : Gr) : Nat → Nat → List Int → List Int
  | 0, _, l => l
  | f + 1, i, l => match l[i]? with
    | some x => orderL g f (i + 1) (noteL l ((g.nodes[x.toNat]?).getD default).ptrs)
    | none => l
def order (g : Gr) : List Int := orderL g (g.nodes.length + 1) 0 (noteL [] g.roots)
theorem inR_lt {n : Nat} {p : Int} (h : inR n p = true) : -1 ≤ p ∧ p < n := by simpa [inR] using h
theorem right_roots {g : Gr} (hr : right g = true) : ∀ x ∈ g.roots, -1 ≤ x ∧ x < g.nodes.length := by
  simp only [right, Bool.and_eq_true, List.all_eq_true] at hr
  exact fun x hx => inR_lt (hr.2 x hx)
theorem right_ptrs {g : Gr} (hr : right g = true) : ∀ n ∈ g.nodes, ∀ x ∈ n.ptrs, -1 ≤ x ∧ x < g.nodes.length := by
  simp only [right, Bool.and_eq_true, List.all_eq_true, nodeOk] at hr
  exact fun n hn x hx => inR_lt ((hr.1.2 n hn).2 x hx)

theorem order_wp {g : Gr} (hg : g.sm) (hr : right g = true) (id : Nat) (ks vs : List V) :
    wpS Try.prog p44.body [.v (grV g), .v (.mp id ks vs)] (fun s => get s 4 = .v (.sl ((order g).map vi)) ∧ get s 3 = .m [atM id (order g)]) (fun _ _ => False) (fun s => get s 4 = .v (.sl ((order g).map vi)) ∧ get s 3 = .m [atM id (order g)]) := by
  obtain ⟨hg1, hg2, hg3⟩ := hg
  simp [p44]
  refine callWM_of (note_vcm (ns := g.roots) (acc := []) (id := id) hg2 (by simp)) ?_
  simp
  have hroots := right_roots hr
  have hgood : Good g.nodes.length (noteL [] g.roots) := noteL_good ⟨by simp, by simp⟩ fun x hx => (hroots x hx).2
  refine wpS_loop (fun t => ∃ i l, i ≤ l.length ∧ Good g.nodes.length l ∧ orderL g (g.nodes.length + 1 - i) i l = order g ∧ t = [.v (grV g), .no, .m [.sl (g.nodes.map ndV), .sl (g.roots.map vi)], .m [atM id l], .v (.sl []), .m [.sl (l.map vi)], .no, .v (vi (i : Nat))]) (fun t => match get t 7 with | .v (.int _ n) => g.nodes.length - n.toNat | _ => 0) ?_ ?_
  · exact ⟨0, _, by simp, hgood, rfl, by simp⟩
  · rintro t ⟨i, l, hi, hl, ho, rfl⟩
    have hlen := hl.len
    by_cases h : i < l.length
    · obtain ⟨x0, x1⟩ := hl.2 _ (List.getElem_mem h)
      obtain ⟨k, hk⟩ := Int.eq_ofNat_of_zero_le x0
      have hkl : k < g.nodes.length := by omega
      have hx : l[i]? = some (k : Int) := by rw [List.getElem?_eq_getElem h, hk]
      simp [h, hk, hkl]
      refine callWM_of (note_vcm (hg3 _ (List.getElem_mem hkl)).1 (by omega)) ?_
      simp
      simp (disch := omega) only [wrap_i]
      have hgood' : Good g.nodes.length (noteL l g.nodes[k].ptrs) := noteL_good hl fun x hx => (right_ptrs hr _ (List.getElem_mem hkl) x hx).2
      refine ⟨⟨i + 1, _, ?_, hgood', ?_, rfl, rfl, by simp⟩, by omega⟩
      · have : ∀ {ns acc : List Int}, acc.length ≤ (noteL acc ns).length := by
          intro ns
          induction ns with
          | nil => intro acc; simp [noteL]
          | cons y ns ih =>
            intro acc
            simp only [noteL]
            refine Nat.le_trans ?_ ih
            split <;> simp
        exact Nat.le_trans h this
      · rw [show g.nodes.length + 1 - i = (g.nodes.length + 1 - (i + 1)) + 1 by omega, orderL, hx] at ho
        simpa [hkl] using ho
    · have : i = l.length := by omega
      subst this
      have hol : l = order g := by
        rw [← ho]
        cases hf : g.nodes.length + 1 - l.length with
        | zero => omega
        | succ f => simp [orderL]
      subst hol
      simp

theorem order_vcm {g : Gr} (hg : g.sm) (hr : right g = true) (id : Nat) (ks vs : List V) : VCM Try.prog 44 [.fz, .own 72] [grV g, .mp id ks vs] (.tup [.sl ((order g).map vi), atM id (order g)]) := by
  refine ⟨by kernel_rfl, fun B w h us hok hA => ?_⟩
  obtain ⟨hA1, hA2, hA3⟩ := hA
  obtain ⟨tk1, ht1, hr1⟩ := hA3 1 (.own 72) (.mp id ks vs) rfl rfl
  simp only [argK, Option.some.injEq] at ht1
  subst ht1
  obtain ⟨x1, hx1, hown⟩ := hr1
  simp only [eval, Option.some.injEq] at hx1
  subst hx1
  rcases hown with ⟨_, _, hl, _⟩ | ⟨id', ks', vs', b, es, clk, he, hv, hbl, hB, hid, hh, h1, h2, h3, h4⟩
  · cases hl
  cases he
  have hA' : RelA Try.prog B w h [.fz, .own 72] [grV g, .mp (b + 1) ks vs] us := by
    refine ⟨rfl, hA2, fun i k x hk hx => ?_⟩
    match i, hk, hx with
    | 0, hk, hx => exact hA3 0 k x hk hx
    | 1, hk, hx =>
      simp at hk hx
      subst hk hx
      exact ⟨_, rfl, _, rfl, .inr ⟨b + 1, ks, vs, b, es, clk, rfl, hv, hbl, hB, .inr rfl, hh, h1, h2, h3, h4⟩⟩
    | i + 2, hk, hx => simp at hk
  refine fn_run (cf := p44) (fin := [(3, .mem [.own 72])]) (xs := [grV g, .mp (b + 1) ks vs]) (Rt := fun s => get s 4 = .v (.sl ((order g).map vi)) ∧ get s 3 = .m [atM (b + 1) (order g)]) Try.func44 follows c44 (order_wp hg hr (b + 1) ks vs) hok hA' fun c s S a w' h' hP hix hix2 hres hRt hrel hnil hK hfrm hfin => ?_
  rw [← hP] at hfin hres ⊢
  simp only [okFin, Bool.and_eq_true, List.all_eq_true] at hfin
  obtain ⟨hfin1, hle⟩ := hfin
  obtain ⟨hrel2, hnil2⟩ := RelS_weak hrel hnil hle
  have hix3 : c.ix 3 = 3 := hix2 3 (by decide)
  have hr : resV s (resOf c.P c.ix Try.f44) = some (.sl ((order g).map vi)) := by
    rw [← hres]
    simp [p44, hRt.1]
  obtain ⟨v, hv', hvr⟩ := results_wp (D := (h'.drop (keepP S [(3, .mem [.own 72])])).F) hrel hnil (fun b hb => .inl hb) (fun q hq => by
    have h1 := hfin1 q hq
    have h2 := List.all_eq_true.1 (show resApart Try.f44 [(3, .mem [.own 72])] = true by kernel_rfl) q hq
    refine ⟨h1, fun i b hb => .inr ⟨resSlot q, i + 1, ?_, by omega, hb⟩⟩
    unfold keepP
    rw [Option.isNone_iff_eq_none.1 h2]
    cases S.at (resSlot q) with
    | none => rfl
    | some k => cases k <;> rfl) hr
  obtain ⟨u, hu, b3, us3, T3, e1, e2, e3, e4, e5⟩ := hrel2.at_ 3 (by rw [entry_at]; exact holds_ix0 s c) (by rw [entry_at]; rfl)
  obtain ⟨X, hX, hown2⟩ := e5 0 (.own 72, .m (c.ix 3) 0) rfl
  have hXe : X = atM (b + 1) (order g) := by
    simp only [eval, hix3, hRt.2] at hX
    simpa using hX.symm
  subst hXe
  rcases hown2 with ⟨_, _, hl, _⟩ | ⟨id2, ks2, vs2, b2, es2, clk2, he2, hv2, hbl2, hB2, hid2, hh2, q1, q2, q3, q4⟩
  · cases hl
  simp only [atM, V.mp.injEq] at he2
  obtain ⟨rfl, rfl, rfl⟩ := he2
  have hbb : b2 = b := by omega
  subst hbb
  obtain ⟨r1, r2, r3⟩ := hrel2.ok.b_lt 3 1 b2 hbl2
  refine ⟨v, hv', v, .sl ((order g).map vi), [.bool false, atM id (order g)], { F := (h'.drop (keepP S [(3, .mem [.own 72])])).F, bl := fun t i => if t = 1 ∧ i = 1 then some b2 else none, K := h'.K }, rfl, hfrm.below, hfrm.same,
    ⟨hrel2.ok.base, hrel2.ok.f_lt, hrel2.ok.f_or, hrel2.ok.g_F, fun t i x hx => ?_, fun t i t' i' x hx hx' => ?_, hrel2.ok.k_lt, fun t i x hx => ?_, hrel2.ok.k_F⟩, hK, hvr, ⟨rfl, fun i k y hk hkz hy => ?_⟩, rfl⟩
  · simp only at hx
    split at hx
    · simp only [Option.some.injEq] at hx; subst hx; exact ⟨r1, r2, r3⟩
    · cases hx
  · simp only at hx hx'
    split at hx <;> split at hx' <;> first | (cases hx; done) | (cases hx'; done) | skip
    rename_i c1 c2
    exact ⟨c1.1.trans c2.1.symm, c1.2.trans c2.2.symm⟩
  · simp only at hx
    split at hx
    · simp only [Option.some.injEq] at hx; subst hx; exact hrel2.ok.k_bl 3 1 b2 hbl2
    · cases hx
  · match i, hk, hy with
    | 0, hk, hy => simp at hk; exact absurd hk.symm hkz
    | 1, hk, hy =>
      simp at hk hy
      subst hk hy
      exact ⟨_, rfl, _, rfl, .inr ⟨id, _, _, b2, es2, clk2, rfl, hv, by simp, hB, hid, hh2, q1, q2, q3, q4⟩⟩
    | i + 2, hk, hy => simp at hk
end Vm
