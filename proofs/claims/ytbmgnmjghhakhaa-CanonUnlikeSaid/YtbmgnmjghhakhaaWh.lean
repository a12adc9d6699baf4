/-
  The law CanonOrder, as a contract of the code.
-/
import Derived.Test.YtbmgnmjghhakhaaWg
import Derived.Test.YtbmgnmjghhakhaaGb
namespace Vm
open Go Go.Proofs
set_option linter.unusedSimpArgs false
set_option linter.unusedVariables false
set_option maxRecDepth 100000
/-! ### What Graph makes -/
theorem rp_in {n : Nat} {p : Int} : -1 ≤ rp n p ∧ rp n p < n := by
  have := pick_lt (c := p) (n := (n : Int) + 1) (by omega)
  unfold rp; omega
theorem mkG_nodes (l : List Nd) (roots : List Int) : (mkG l roots).nodes.length = mkN l := by
  simp [mkG, mkN]
theorem mkG_bounds (l : List Nd) (roots : List Int) : mkN l ≤ 10 ∧ (mkG l roots).roots.length ≤ 5 ∧ ∀ x ∈ (mkG l roots).nodes, x.ptrs.length ≤ 4 ∧ x.data.length ≤ 4 := by
  refine ⟨by unfold mkN; omega, ?_, fun x hx => ?_⟩
  · simp only [mkG]; split
    · simp
    · simp; omega
  · simp only [mkG, List.mem_map] at hx
    obtain ⟨y, _, rfl⟩ := hx
    simp only [mkNd, List.length_map, List.length_take]; omega
theorem mkG_sm (l : List Nd) (roots : List Int) : (mkG l roots).sm := by
  obtain ⟨h1, h2, h3⟩ := mkG_bounds l roots
  refine ⟨by rw [mkG_nodes]; omega, by omega, fun x hx => ?_⟩
  have := h3 x hx; omega
theorem mkG_right (l : List Nd) (roots : List Int) : right (mkG l roots) = true := by
  obtain ⟨h1, h2, h3⟩ := mkG_bounds l roots
  simp only [right, Bool.and_eq_true, List.all_eq_true, decide_eq_true_eq, nodeOk]
  rw [mkG_nodes]
  refine ⟨⟨by omega, fun x hx => ⟨by have := h3 x hx; omega, fun p hp => ?_⟩⟩, fun p hp => ?_⟩
  · simp only [mkG, List.mem_map] at hx
    obtain ⟨y, _, rfl⟩ := hx
    simp only [mkNd, List.mem_map] at hp
    obtain ⟨q, _, rfl⟩ := hp
    simpa [inR] using rp_in
  · simp only [mkG] at hp
    split at hp
    · simp at hp; subst hp; simp [inR]; omega
    · simp only [List.mem_map] at hp
      obtain ⟨q, _, rfl⟩ := hp
      simpa [inR] using rp_in
/-! ### The order, told as a whole -/
def outs (g : Gr) (x : Int) : List Int := ((g.nodes[x.toNat]?).getD default).ptrs
theorem noteL_append : ∀ (a : List Int) {acc b : List Int}, noteL acc (a ++ b) = noteL (noteL acc a) b
  | [], _, _ => rfl
  | x :: a, acc, b => by simp only [List.cons_append, noteL]; exact noteL_append a
theorem noteL_pre : ∀ (l : List Int) {acc : List Int}, ∃ t, noteL acc l = acc ++ t
  | [], acc => ⟨[], by simp [noteL]⟩
  | x :: l, acc => by
    simp only [noteL]
    obtain ⟨t, ht⟩ := noteL_pre l (acc := if 0 ≤ x ∧ x ∉ acc then acc ++ [x] else acc)
    rw [ht]
    split
    · exact ⟨x :: t, by simp⟩
    · exact ⟨t, rfl⟩
theorem noteL_mem : ∀ {l acc : List Int} {x : Int}, x ∈ noteL acc l ↔ x ∈ acc ∨ (x ∈ l ∧ 0 ≤ x)
  | [], acc, x => by simp [noteL]
  | y :: l, acc, x => by
    simp only [noteL, noteL_mem (l := l), List.mem_cons]
    split
    · rename_i h
      simp only [List.mem_append, List.mem_singleton]
      constructor
      · rintro ((h1 | rfl) | h1)
        · exact .inl h1
        · exact .inr ⟨.inl rfl, h.1⟩
        · exact .inr ⟨.inr h1.1, h1.2⟩
      · rintro (h1 | ⟨rfl | h1, h2⟩)
        · exact .inl (.inl h1)
        · exact .inl (.inr rfl)
        · exact .inr ⟨h1, h2⟩
    · rename_i h
      constructor
      · rintro (h1 | h1)
        · exact .inl h1
        · exact .inr ⟨.inr h1.1, h1.2⟩
      · rintro (h1 | ⟨rfl | h1, h2⟩)
        · exact .inl h1
        · exact .inl (by by_cases hx : x ∈ acc; exact hx; exact (h ⟨h2, hx⟩).elim)
        · exact .inr ⟨h1, h2⟩
theorem good_outs {g : Gr} (hr : right g = true) (x : Int) : ∀ y ∈ outs g x, -1 ≤ y ∧ y < g.nodes.length := by
  intro y hy
  unfold outs at hy
  cases hn : g.nodes[x.toNat]? with
  | none => rw [hn] at hy; cases hy
  | some n => rw [hn] at hy; exact right_ptrs hr n (List.mem_of_getElem? hn) y hy
theorem orderL_whole {g : Gr} (hr : right g = true) : ∀ {f i : Nat} {l : List Int}, Good g.nodes.length l → i ≤ l.length → g.nodes.length < f + i → l = noteL [] (g.roots ++ (l.take i).flatMap (outs g)) →
    orderL g f i l = noteL [] (g.roots ++ (orderL g f i l).flatMap (outs g))
  | 0, i, l, hg, hi, hf, hl => by have := hg.len; omega
  | f + 1, i, l, hg, hi, hf, hl => by
    simp only [orderL]
    cases hx : l[i]? with
    | none =>
      have : l.length ≤ i := by simpa using hx
      rw [List.take_of_length_le this] at hl
      exact hl
    | some x =>
      have hil : i < l.length := by
        rcases Nat.lt_or_ge i l.length with h | h
        · exact h
        · rw [List.getElem?_eq_none h] at hx; cases hx
      obtain ⟨t, ht⟩ := noteL_pre (outs g x) (acc := l)
      refine orderL_whole hr (noteL_good hg fun y hy => (good_outs hr x y hy).2) ?_ (by omega) ?_
      · show i + 1 ≤ (noteL l (outs g x)).length
        rw [ht, List.length_append]; omega
      · show noteL l (outs g x) = noteL [] (g.roots ++ ((noteL l (outs g x)).take (i + 1)).flatMap (outs g))
        rw [ht, List.take_append_of_le_length (by omega), List.take_add_one, hx, ← ht]
        simp only [List.flatMap_append, Option.toList, ← List.append_assoc]
        rw [noteL_append, ← hl]
        simp
theorem order_whole {g : Gr} (hr : right g = true) : order g = noteL [] (g.roots ++ (order g).flatMap (outs g)) := by
  refine orderL_whole hr (noteL_good ⟨List.nodup_nil, by simp⟩ fun y hy => (right_roots hr y hy).2) (Nat.zero_le _) (by omega) ?_
  simp
/-! ### Where a node stands -/
def pos1 (l : List Int) (p : Int) : Int := match l.findIdx? (· == p) with
  | some i => i + 1
  | none => 0
def seenL (n : Nat) (l : List Int) : List Int := (List.range n).map fun (p : Nat) => pos1 l p
theorem pos1_none {l : List Int} {p : Int} (h : p ∉ l) : pos1 l p = 0 := by
  unfold pos1; rw [findIdx_none.2 h]
theorem pos1_mem {l : List Int} {p : Int} (h : p ∈ l) : 0 < pos1 l p ∧ pos1 l p ≤ l.length := by
  unfold pos1
  cases hf : l.findIdx? (· == p) with
  | none => exact (findIdx_none.1 hf h).elim
  | some i =>
    have := (List.findIdx?_eq_some_iff_getElem.1 hf).1
    simp; omega
theorem pos1_append {l t : List Int} {p : Int} (h : p ∈ l) : pos1 (l ++ t) p = pos1 l p := by
  unfold pos1
  rw [List.findIdx?_append]
  cases hf : l.findIdx? (· == p) with
  | none => exact (findIdx_none.1 hf h).elim
  | some i => rfl
theorem pos1_last {l : List Int} {p : Int} (h : p ∉ l) : pos1 (l ++ [p]) p = l.length + 1 := by
  unfold pos1
  rw [List.findIdx?_append, findIdx_none.2 h]
  simp
theorem pos1_other {l : List Int} {p q : Int} (h : p ≠ q) : pos1 (l ++ [q]) p = pos1 l p := by
  by_cases hp : p ∈ l
  · exact pos1_append hp
  · rw [pos1_none hp, pos1_none (by simp [hp, h])]
theorem seenL_get {n : Nat} {l : List Int} {x : Int} (h0 : 0 ≤ x) (hx : x < n) : (seenL n l)[x.toNat]? = some (pos1 l x) := by
  unfold seenL
  rw [List.getElem?_map, List.getElem?_range (by omega)]
  simp [Int.toNat_of_nonneg h0, Int.max_eq_left h0]
theorem seenL_at {n : Nat} {l : List Int} {m : Nat} (hm : m < n) : (seenL n l)[m]? = some (pos1 l m) := by
  have := seenL_get (n := n) (l := l) (x := (m : Int)) (by omega) (by omega)
  simpa using this
theorem seenL_put {n : Nat} {l : List Int} {x : Int} (h0 : 0 ≤ x) (hx : x < n) (hn : x ∉ l) : (seenL n l).set x.toNat (l.length + 1) = seenL n (l ++ [x]) := by
  apply List.ext_getElem?
  intro i
  rw [List.getElem?_set]
  by_cases hi : i < n
  · have h1 : (seenL n l).length = n := by simp [seenL]
    have hv := fun l => seenL_get (n := n) (l := l) (x := (i : Int)) (by omega) (by omega)
    simp only [Int.toNat_natCast] at hv
    by_cases he : x.toNat = i
    · subst he
      rw [if_pos rfl, if_pos (by rw [h1]; omega), hv, Int.toNat_of_nonneg h0, pos1_last hn]
    · rw [if_neg he, hv, hv, pos1_other (by omega)]
  · rw [List.getElem?_eq_none (by simp [seenL]; omega), List.getElem?_eq_none (by simp [seenL]; omega)]
    have : x.toNat ≠ i := by omega
    simp [this]
theorem seenL_nil (n : Nat) : seenL n [] = List.replicate n 0 := by
  unfold seenL
  rw [List.eq_replicate_iff]
  exact ⟨by simp, fun b hb => by simp at hb; obtain ⟨a, _, h⟩ := hb; exact h ▸ rfl⟩

theorem law5 {l : List Nd} {roots : List Int} (hl : ∀ x ∈ l, ∀ p ∈ x.ptrs, Fit p) (hr : ∀ p ∈ roots, Fit p) : VC Try.prog 5 false [.sl (l.map ndV), .sl (roots.map vi)] (.bool true) := by
  refine vc_of_wp Try.func5 follows (by kernel_rfl) c5 rfl ?_
  simp [p5]
  refine callW_of awake9_vc (by simp) ?_
  simp
  refine callW_of (Graph_vc hl hr) (by simp) ?_
  have hgr := mkG_right l roots
  have hgs := mkG_sm l roots
  obtain ⟨hb1, hb2, hb3⟩ := mkG_bounds l roots
  have hgn := mkG_nodes l roots
  generalize mkG l roots = g at *
  generalize mkN l = n at *
  have hO := Order_vc hgs
  rw [show orderR g = order g from if_pos hgr] at hO
  have hgood := order_good hgr
  have hwhole := order_whole hgr
  have hlen := hgood.len
  rw [hgn] at hgood hlen
  generalize hL : order g = L at *
  have hnl : n ≤ lim := by simp [lim]; omega
  simp
  refine callW_of hO (by simp) ?_
  simp [hgn, hnl]
  refine wpS_loop (fun t => ∃ i : Nat, i ≤ L.length ∧ t = [.v (.sl (l.map ndV)), .v (.sl (roots.map vi)), .v (.bool false), .v (.bool true), .m [.sl (g.nodes.map ndV), .sl (g.roots.map vi)], .v (.sl (L.map vi)), .v (.sl ((seenL n (L.take i)).map vi)), .v (vi i)]) (fun t => match get t 7 with | .v (.int _ i) => n - i.toNat | _ => 0) ?_ ?_
  · exact ⟨0, by simp, by simp [seenL_nil]⟩
  · rintro t ⟨i, hi, rfl⟩
    have hw := wrap_i ((i : Int) + 1) (by omega) (by omega)
    by_cases h : i < L.length
    · have hx : L[i]? = some L[i] := List.getElem?_eq_getElem h
      simp [h]
      generalize L[i] = x at hx
      have hxm : x ∈ L := List.mem_of_getElem? hx
      obtain ⟨hx0, hxn⟩ := hgood.2 x hxm
      obtain ⟨m, rfl⟩ := Int.eq_ofNat_of_zero_le hx0
      have hmn : m < n := by omega
      have hnot : (m : Int) ∉ L.take i := by
        intro hm
        obtain ⟨j, hj, he⟩ := List.getElem_of_mem hm
        rw [List.length_take] at hj
        rw [List.getElem_take] at he
        have h1 : L[j]? = some (m : Int) := by rw [List.getElem?_eq_getElem (by omega), he]
        have := (List.getElem?_inj (by omega) hgood.1).1 (h1.trans hx.symm)
        omega
      have hat := seenL_at (n := n) (l := L.take i) hmn
      have hput := seenL_put (n := n) (l := L.take i) (x := (m : Int)) (by omega) (by omega) hnot
      rw [List.length_take, Nat.min_eq_left hi, Int.toNat_natCast, ← show L.take (i + 1) = L.take i ++ [(m : Int)] by rw [List.take_add_one, hx]; rfl] at hput
      have hmn' : ¬ (n : Int) ≤ m := by omega
      have hm0 : ¬ (m : Int) < 0 := by omega
      rw [pos1_none hnot] at hat
      simp [hgn, hmn', hm0, hat, hw]
      refine ⟨by omega, ⟨i + 1, by omega, ?_, by simp⟩, by omega⟩
      rw [← hput, List.map_set]
      rfl
    · have : i = L.length := by omega
      subst this
      have hrl : g.roots.length ≤ lim := by simp [lim]; omega
      simp [hrl]
      have houts : ∀ x, (outs g x).length ≤ 4 := by
        intro x
        unfold outs
        cases hn : g.nodes[x.toNat]? with
        | none => exact Nat.zero_le 4
        | some y => exact (hb3 y (List.mem_of_getElem? hn)).1
      have hfl : ∀ l : List Int, (l.flatMap (outs g)).length ≤ 4 * l.length := by
        intro l
        induction l with
        | nil => simp
        | cons x l ih => rw [List.flatMap_cons, List.length_append, List.length_cons]; have := houts x; omega
      refine wpS_loop (fun t => ∃ j : Nat, j ≤ L.length ∧ t = [.v (.sl (l.map ndV)), .v (.sl (roots.map vi)), .v (.bool false), .v (.bool true), .m [.sl (g.nodes.map ndV), .sl (g.roots.map vi)], .v (.sl (L.map vi)), .v (.sl ((seenL n L).map vi)), .v (vi L.length), .v (.bool false), .no, .v (vi 1), .v (.sl ((g.roots ++ (L.take j).flatMap (outs g)).map vi)), .v (vi j)]) (fun t => match get t 12 with | .v (.int _ i) => n - i.toNat | _ => 0) ?_ ?_
      · exact ⟨0, by simp, by simp⟩
      · rintro t ⟨j, hj, rfl⟩
        have hw := wrap_i ((j : Int) + 1) (by omega) (by omega)
        have hflj := hfl (L.take j)
        rw [List.length_take, Nat.min_eq_left hj] at hflj
        by_cases h : j < L.length
        · have hx : L[j]? = some L[j] := List.getElem?_eq_getElem h
          simp only [List.map_append]
          simp [h]
          generalize L[j] = x at hx
          have hxm : x ∈ L := List.mem_of_getElem? hx
          obtain ⟨hx0, hxn⟩ := hgood.2 x hxm
          obtain ⟨m, rfl⟩ := Int.eq_ofNat_of_zero_le hx0
          have hmn : m < n := by omega
          have hnd : g.nodes[m]? = some g.nodes[m] := List.getElem?_eq_getElem (by omega)
          have ho : outs g (m : Int) = g.nodes[m].ptrs := by
            unfold outs; rw [Int.toNat_natCast, hnd]; rfl
          have hol := houts (m : Int)
          rw [ho] at hol
          simp [hgn, hmn, hw, hnd, -List.length_flatMap]
          refine ⟨by simp only [lim]; omega, ⟨j + 1, by omega, ?_, by simp⟩, by omega⟩
          rw [List.take_add_one, hx, List.flatMap_append, List.map_append, ← ho]
          simp
        · have : j = L.length := by omega
          subst this
          simp
          rw [← List.map_append]
          have hAl : (g.roots ++ L.flatMap (outs g)).length ≤ 45 := by
            rw [List.length_append]; have := hfl L; omega
          have hAb : ∀ p ∈ g.roots ++ L.flatMap (outs g), p < n := by
            intro p hp
            rw [← hgn]
            rcases List.mem_append.1 hp with hp | hp
            · exact (right_roots hgr p hp).2
            · obtain ⟨x, _, hp⟩ := List.mem_flatMap.1 hp
              exact (good_outs hgr x p hp).2
          generalize g.roots ++ L.flatMap (outs g) = A at *
          have hpre : ∀ k, ∃ t, L = noteL [] (A.take k) ++ t := by
            intro k
            obtain ⟨t, ht⟩ := noteL_pre (A.drop k) (acc := noteL [] (A.take k))
            rw [← noteL_append, List.take_append_drop] at ht
            exact ⟨t, hwhole.trans ht⟩
          refine wpS_loop (fun t => ∃ k : Nat, k ≤ A.length ∧ t = [.v (.sl (l.map ndV)), .v (.sl (roots.map vi)), .v (.bool false), .v (.bool true), .m [.sl (g.nodes.map ndV), .sl (g.roots.map vi)], .v (.sl (L.map vi)), .v (.sl ((seenL n L).map vi)), .v (vi L.length), .v (.bool false), .no, .v (vi ((noteL [] (A.take k)).length + 1)), .v (.sl (A.map vi)), .v (vi L.length), .v (.bool false), .v (vi k)]) (fun t => match get t 14 with | .v (.int _ i) => 45 - i.toNat | _ => 0) ?_ ?_
          · exact ⟨0, by simp, by simp [noteL]⟩
          · rintro t ⟨k, hk, rfl⟩
            have hw := wrap_i ((k : Int) + 1) (by omega) (by omega)
            obtain ⟨t, ht⟩ := hpre k
            have hMl : (noteL [] (A.take k)).length + t.length = L.length := by rw [ht, List.length_append]
            by_cases h : k < A.length
            · have hx : A[k]? = some A[k] := List.getElem?_eq_getElem h
              simp [h]
              generalize A[k] = x at hx
              have hxA : x ∈ A := List.mem_of_getElem? hx
              have hstep : noteL [] (A.take (k + 1)) = if 0 ≤ x ∧ x ∉ noteL [] (A.take k) then noteL [] (A.take k) ++ [x] else noteL [] (A.take k) := by
                rw [List.take_add_one, hx, noteL_append]; rfl
              by_cases hx0 : x < 0
              · rw [if_neg (by omega)] at hstep
                simp [hx0, hw]
                exact ⟨⟨k + 1, by omega, by rw [hstep]; simp⟩, by omega⟩
              · obtain ⟨m, rfl⟩ := Int.eq_ofNat_of_zero_le (by omega : 0 ≤ x)
                have hxn := hAb _ hxA
                have hmn : m < n := by omega
                have hxL : (m : Int) ∈ L := by rw [hwhole, noteL_mem]; exact .inr ⟨hxA, by omega⟩
                have hat := seenL_at (n := n) (l := L) hmn
                have hq := pos1_mem hxL
                by_cases hM : (m : Int) ∈ noteL [] (A.take k)
                · have hpq : pos1 L m = pos1 (noteL [] (A.take k)) m := by rw [ht, pos1_append hM]
                  have hq2 := pos1_mem hM
                  rw [if_neg (by simp [hM])] at hstep
                  generalize hM' : noteL [] (A.take k) = M at *
                  generalize pos1 L m = q at *
                  have h1 : ¬ q = 0 := by omega
                  have h2 : ¬ (M.length : Int) + 1 < q := by omega
                  have h3 : ¬ q = (M.length : Int) + 1 := by omega
                  simp [hx, hx0, hat, h1, h2, h3, hw]
                  exact ⟨⟨k + 1, by omega, by rw [hstep]; simp⟩, by omega⟩
                · have hstep' := hstep
                  rw [if_pos ⟨by omega, hM⟩] at hstep
                  obtain ⟨t', ht'⟩ := hpre (k + 1)
                  have hpq : pos1 L m = (noteL [] (A.take k)).length + 1 := by
                    rw [ht', hstep, pos1_append (by simp), pos1_last hM]
                  generalize hM' : noteL [] (A.take k) = M at *
                  have h1 : ¬ (M.length : Int) + 1 = 0 := by omega
                  have hw2 := wrap_i ((M.length : Int) + 1 + 1) (by omega) (by omega)
                  rw [hpq] at hat
                  simp [hx, hx0, hat, h1, hw, hw2]
                  exact ⟨⟨k + 1, by omega, by rw [hstep]; simp⟩, by omega⟩
            · have : k = A.length := by omega
              subst this
              have hw3 := wrap_i ((L.length : Int) + 1) (by omega) (by omega)
              rw [List.take_length, ← hwhole]
              simp [hw3]
end Vm
