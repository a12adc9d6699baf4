/-
  The reference's own: which graphs are alike.
-/
import Derived.Test.YtbmgnmjghhakhaaW3
namespace Vm
open Go Go.Proofs
set_option linter.unusedSimpArgs false
set_option linter.unusedVariables false
set_option maxRecDepth 100000
/-! ### Nodes side by side -/
def besideL (m : List Int) (p q : Int) : List Int × Bool :=
  if p < 0 ∨ q < 0 then (m, decide (p = q)) else
  if 0 ≤ (m[p.toNat]?).getD 0 ∨ q ∈ m then (m, decide ((m[p.toNat]?).getD 0 = q)) else (m.set p.toNat q, true)
def allF (m0 : List Int) : List Int → List Int → List Int → List Int × Bool
  | m, a :: us, b :: ws => if (besideL m a b).2 then allF m0 (besideL m a b).1 us ws else (m0, false)
  | m, _, _ => (m, true)
def allL (m us ws : List Int) : List Int × Bool := if us.length = ws.length then allF m m us ws else (m, false)
theorem besideL_len {m : List Int} {p q : Int} : (besideL m p q).1.length = m.length := by
  unfold besideL
  split
  · rfl
  · split
    · rfl
    · simp
theorem allF_len {m0 : List Int} : ∀ {us ws m : List Int}, m.length = m0.length → (allF m0 m us ws).1.length = m0.length
  | [], ws, m, h => by simpa [allF] using h
  | a :: us, [], m, h => by simpa [allF] using h
  | a :: us, b :: ws, m, h => by
    simp only [allF]
    split
    · exact allF_len (by rw [besideL_len, h])
    · rfl
theorem beside_vc {m : List Int} {p q : Int} (hm : m.length ≤ 1000000) (hp : p < m.length) : VC Try.prog 61 false [.sl (m.map vi), vi p, vi q] (.tup [.sl ((besideL m p q).1.map vi), .bool (besideL m p q).2]) := by
  refine vc_of_wp Try.func61 follows (by kernel_rfl) c61 rfl ?_
  have hl : m.length ≤ lim := by simp [lim]; omega
  by_cases h1 : p < 0
  · simp [p61, h1, besideL]
  · by_cases h2 : q < 0
    · simp [p61, h1, h2, besideL]
    · obtain ⟨k, rfl⟩ := Int.eq_ofNat_of_zero_le (show 0 ≤ p by omega)
      have hk : k < m.length := by omega
      by_cases h3 : 0 ≤ m[k]
      · simp [p61, h1, h2, hk, h3, besideL]
      · simp [p61, h1, h2, hk, h3]
        refine callW_of (place_vc hm) (by simp) ?_
        by_cases h4 : q ∈ m
        · have : 0 ≤ placeL m q := by
            have := placeL_neg (l := m) (p := q)
            rcases Int.lt_or_le (placeL m q) 0 with hh | hh
            · exact (this.1 hh h4).elim
            · exact hh
          simp [hk, this, besideL, h1, h2, h3, h4]
        · have : ¬ 0 ≤ placeL m q := by
            have := placeL_neg.2 h4
            omega
          simp [hk, this, besideL, h1, h2, h3, h4, hl, V.put, setCells, List.map_set]
theorem all_vc {m us ws : List Int} (hm : m.length ≤ 1000000) (hl : us.length ≤ 100000) (ha : ∀ p ∈ us, p < m.length) : VC Try.prog 51 false [.sl (m.map vi), .sl (us.map vi), .sl (ws.map vi)] (.tup [.sl ((allL m us ws).1.map vi), .bool (allL m us ws).2]) := by
  refine vc_of_wp Try.func51 follows (by kernel_rfl) c51 rfl ?_
  by_cases hlen : us.length = ws.length
  · have hL : allL m us ws = allF m m us ws := if_pos hlen
    rw [hL]
    simp [p51, hlen]
    refine wpS_loop (fun t => ∃ (i : Nat) (o : List Int), i ≤ ws.length ∧ o.length = m.length ∧ allF m o (us.drop i) (ws.drop i) = allF m m us ws ∧ t = [.v (.sl (m.map vi)), .v (.sl (us.map vi)), .v (.sl (ws.map vi)), .v (.sl []), .v (.bool false), .v (.bool false), .v (.sl (o.map vi)), .v (vi i)]) (fun t => match get t 7 with | .v (.int _ n) => ws.length - n.toNat | _ => 0) ?_ ?_
    · exact ⟨0, m, by simp, rfl, by simp, by simp⟩
    · rintro t ⟨i, o, hi, hol, ho, rfl⟩
      by_cases h : i < ws.length
      · have h' : i < us.length := by omega
        have hd1 : us.drop i = us[i] :: us.drop (i + 1) := List.drop_eq_getElem_cons h'
        have hd2 : ws.drop i = ws[i] :: ws.drop (i + 1) := List.drop_eq_getElem_cons h
        have hw := wrap_i ((i : Int) + 1) (by omega) (by omega)
        rw [hd1, hd2] at ho
        simp only [allF] at ho
        simp [h, h', hlen]
        refine callW_of (beside_vc (p := us[i]) (q := ws[i]) (by omega) (by rw [hol]; exact ha _ (List.getElem_mem h'))) (by simp) ?_
        cases hb : (besideL o us[i] ws[i]).2
        · rw [hb] at ho
          simp at ho
          simp [← ho]
        · rw [hb] at ho
          simp at ho
          simp [hw]
          exact ⟨⟨i + 1, by omega, _, by rw [besideL_len, hol], ho, rfl, by simp⟩, by omega⟩
      · have : i = ws.length := by omega
        subst this
        rw [List.drop_length, List.drop_of_length_le (by omega)] at ho
        simp only [allF] at ho
        simp [← ho, hlen]
  · have hL : allL m us ws = (m, false) := if_neg hlen
    rw [hL]
    simp [p51, show ¬ ((us.length : Int) = (ws.length : Int)) by omega]

/-! ### What is matched -/
def Matched (m : List Int) (p q : Int) : Prop := (p < 0 ∧ p = q) ∨ (0 ≤ p ∧ 0 ≤ q ∧ m[p.toNat]? = some q)
structure MOk (m : List Int) (nb : Nat) : Prop where
  inj : ∀ (i j : Nat) (q : Int), 0 ≤ q → m[i]? = some q → m[j]? = some q → i = j
  lt : ∀ q ∈ m, q < nb
def Ext (m m' : List Int) : Prop := ∀ p q, Matched m p q → Matched m' p q
theorem Ext.refl (m : List Int) : Ext m m := fun _ _ h => h
theorem Ext.trans {a b c : List Int} (h : Ext a b) (h' : Ext b c) : Ext a c := fun p q hm => h' p q (h p q hm)
theorem beside_ok {m : List Int} {nb : Nat} {p q : Int} (hm : MOk m nb) (hp : p < m.length) (hq : q < nb) (h : (besideL m p q).2 = true) : MOk (besideL m p q).1 nb ∧ Ext m (besideL m p q).1 ∧ Matched (besideL m p q).1 p q := by
  unfold besideL at h ⊢
  by_cases h1 : p < 0 ∨ q < 0
  · rw [if_pos h1] at h ⊢
    simp only [decide_eq_true_eq] at h
    exact ⟨hm, .refl m, .inl ⟨by omega, h⟩⟩
  · rw [if_neg h1] at h ⊢
    obtain ⟨k, rfl⟩ := Int.eq_ofNat_of_zero_le (show 0 ≤ p by omega)
    have hk : k < m.length := by omega
    simp only [Int.toNat_natCast, List.getElem?_eq_getElem hk, Option.getD_some] at h ⊢
    by_cases h2 : 0 ≤ m[k] ∨ q ∈ m
    · rw [if_pos h2] at h ⊢
      simp only [decide_eq_true_eq] at h
      exact ⟨hm, .refl m, .inr ⟨by omega, by omega, by simp [hk, h]⟩⟩
    · rw [if_neg h2]
      refine ⟨⟨fun i j r hr hi hj => ?_, fun r hr => ?_⟩, fun r s hrs => ?_, .inr ⟨by omega, by omega, by simp [hk]⟩⟩
      · simp only [List.getElem?_set] at hi hj
        have hno : ∀ {i : Nat}, m[i]? = some q → False := fun hi => h2 (.inr (List.mem_of_getElem? hi))
        by_cases e1 : k = i <;> by_cases e2 : k = j
        · omega
        · subst e1
          simp [hk] at hi
          rw [if_neg e2] at hj
          subst hi
          exact (hno hj).elim
        · subst e2
          simp [hk] at hj
          rw [if_neg e1] at hi
          subst hj
          exact (hno hi).elim
        · rw [if_neg e1] at hi
          rw [if_neg e2] at hj
          exact hm.inj i j r hr hi hj
      · rcases List.mem_or_eq_of_mem_set hr with h3 | rfl
        · exact hm.lt r h3
        · exact hq
      · rcases hrs with h3 | ⟨h3, h4, h5⟩
        · exact .inl h3
        · refine .inr ⟨h3, h4, ?_⟩
          have hne : k ≠ r.toNat := by
            rintro rfl
            rw [List.getElem?_eq_getElem hk] at h5
            simp only [Option.some.injEq] at h5
            exact h2 (.inl (by omega))
          rw [List.getElem?_set, if_neg hne]
          exact h5
theorem allF_ok {m0 : List Int} {nb : Nat} : ∀ {us ws m : List Int}, MOk m nb → (∀ p ∈ us, p < m.length) → (∀ q ∈ ws, q < nb) → (allF m0 m us ws).2 = true → (us.length = ws.length) →
    MOk (allF m0 m us ws).1 nb ∧ Ext m (allF m0 m us ws).1 ∧ ∀ (i : Nat) (p q : Int), us[i]? = some p → ws[i]? = some q → Matched (allF m0 m us ws).1 p q
  | [], ws, m, hm, _, _, _, hl => by
    simp only [allF]
    exact ⟨hm, .refl m, fun i p q h => by simp at h⟩
  | a :: us, [], m, hm, _, _, _, hl => by simp at hl
  | a :: us, b :: ws, m, hm, ha, hb, h, hl => by
    simp only [allF] at h ⊢
    cases hbs : (besideL m a b).2
    · rw [hbs] at h; simp at h
    · rw [hbs] at h
      simp only [if_true] at h ⊢
      obtain ⟨h1, h2, h3⟩ := beside_ok hm (ha a (by simp)) (hb b (by simp)) hbs
      obtain ⟨h4, h5, h6⟩ := allF_ok (m0 := m0) h1 (fun p hp => by rw [besideL_len]; exact ha p (by simp [hp])) (fun q hq => hb q (by simp [hq])) h (by simpa using hl)
      refine ⟨h4, h2.trans h5, fun i p q hp hq => ?_⟩
      cases i with
      | zero => simp at hp hq; subst hp hq; exact h5 _ _ h3
      | succ i => exact h6 i p q (by simpa using hp) (by simpa using hq)
/-- all that is matched is so by φ, on S -/
def Sub (m : List Int) (S : Int → Prop) (φ : Int → Int) : Prop := ∀ (p : Nat) (q : Int), m[p]? = some q → 0 ≤ q → S p ∧ q = φ p
def Pair (S : Int → Prop) (φ : Int → Int) (p q : Int) : Prop := (p < 0 ∧ p = q) ∨ (0 ≤ p ∧ S p ∧ q = φ p ∧ 0 ≤ q)
theorem beside_sub {m : List Int} {S : Int → Prop} {φ : Int → Int} {p q : Int} (hs : Sub m S φ) (hp : p < m.length) (hinj : ∀ x y, S x → S y → φ x = φ y → x = y) (h : Pair S φ p q) : (besideL m p q).2 = true ∧ Sub (besideL m p q).1 S φ := by
  unfold besideL
  rcases h with ⟨h1, rfl⟩ | ⟨h0, h1, h2, h3⟩
  · rw [if_pos (.inl h1)]
    exact ⟨by simp, hs⟩
  · rw [if_neg (by omega)]
    obtain ⟨k, rfl⟩ := Int.eq_ofNat_of_zero_le h0
    have hk : k < m.length := by omega
    simp only [Int.toNat_natCast, List.getElem?_eq_getElem hk, Option.getD_some]
    by_cases h4 : 0 ≤ m[k] ∨ q ∈ m
    · rw [if_pos h4]
      refine ⟨?_, hs⟩
      simp only [decide_eq_true_eq]
      rcases h4 with h4 | h4
      · have := hs k m[k] (List.getElem?_eq_getElem hk) h4
        rw [h2, this.2]
      · obtain ⟨j, hj⟩ := List.getElem?_of_mem h4
        have h5 := hs j q hj h3
        have h6 := hinj j k h5.1 h1 (by rw [← h5.2, ← h2])
        have : j = k := by omega
        subst this
        rw [List.getElem?_eq_getElem hk] at hj
        simpa using hj
    · rw [if_neg h4]
      refine ⟨rfl, fun i r hi hr => ?_⟩
      rw [List.getElem?_set] at hi
      by_cases e : k = i
      · subst e
        simp [hk] at hi
        subst hi
        exact ⟨h1, h2⟩
      · rw [if_neg e] at hi
        exact hs i r hi hr
theorem allF_sub {m0 : List Int} {S : Int → Prop} {φ : Int → Int} (hinj : ∀ x y, S x → S y → φ x = φ y → x = y) : ∀ {us ws m : List Int}, Sub m S φ → (∀ p ∈ us, p < m.length) → (∀ (i : Nat) (p q : Int), us[i]? = some p → ws[i]? = some q → Pair S φ p q) →
    (allF m0 m us ws).2 = true ∧ Sub (allF m0 m us ws).1 S φ
  | [], ws, m, hs, _, _ => by simp only [allF]; exact ⟨trivial, hs⟩
  | a :: us, [], m, hs, _, _ => by simp only [allF]; exact ⟨trivial, hs⟩
  | a :: us, b :: ws, m, hs, ha, hp => by
    simp only [allF]
    obtain ⟨h1, h2⟩ := beside_sub hs (ha a (by simp)) hinj (hp 0 a b rfl rfl)
    rw [if_pos h1]
    exact allF_sub hinj h2 (fun p hp => by rw [besideL_len]; exact ha p (by simp [hp])) fun i p q h3 h4 => hp (i + 1) p q (by simpa using h3) (by simpa using h4)
/-- what holds of roots, and of what live nodes point to, holds of live nodes -/
theorem order_ind {g : Gr} {Q : Int → Prop} (h0 : ∀ x ∈ g.roots, 0 ≤ x → Q x) (h1 : ∀ x, Q x → ∀ y ∈ outs g x, 0 ≤ y → Q y) : ∀ x ∈ order g, Q x := by
  have : ∀ (F i : Nat) (l : List Int), (∀ x ∈ l, Q x) → ∀ x ∈ orderL g F i l, Q x := by
    intro F
    induction F with
    | zero => intro i l h; exact h
    | succ F ih =>
      intro i l h
      simp only [orderL]
      cases hx : l[i]? with
      | none => exact h
      | some x =>
        refine ih _ _ fun y hy => ?_
        rcases noteL_mem.1 hy with h2 | ⟨h2, h3⟩
        · exact h y h2
        · exact h1 x (h x (List.mem_of_getElem? hx)) y h2 h3
  refine this _ _ _ fun x hx => ?_
  rcases noteL_mem.1 hx with h2 | ⟨h2, h3⟩
  · simp at h2
  · exact h0 x h2 h3
/-! ### The node of the other graph -/
def other (a b : Gr) (x : Int) : Int := ((order b)[(at0 (order a) x).toNat]?).getD 0
theorem pairs_of_moved {a b : Gr} (ha : right a = true) (hb : right b = true) {ps qs : List Int} (hps : ∀ p ∈ ps, -1 ≤ p ∧ (0 ≤ p → p ∈ order a)) (hqs : ∀ q ∈ qs, -1 ≤ q ∧ (0 ≤ q → q ∈ order b)) (h : movedL (order a) ps = movedL (order b) qs) :
    ps.length = qs.length ∧ ∀ (i : Nat) (p q : Int), ps[i]? = some p → qs[i]? = some q → Pair (· ∈ order a) (other a b) p q := by
  refine ⟨by have := congrArg List.length h; simpa [movedL] using this, fun i p q hp hq => ?_⟩
  have h1 : (movedL (order a) ps)[i]? = (movedL (order b) qs)[i]? := by rw [h]
  unfold movedL at h1
  rw [List.getElem?_map, List.getElem?_map, hp, hq] at h1
  simp only [Option.map_some, Option.some.injEq] at h1
  obtain ⟨p1, p2⟩ := hps p (List.mem_of_getElem? hp)
  obtain ⟨q1, q2⟩ := hqs q (List.mem_of_getElem? hq)
  by_cases h0 : 0 ≤ p
  · rw [if_pos h0] at h1
    have h3 := at0_get (p2 h0)
    by_cases h4 : 0 ≤ q
    · rw [if_pos h4] at h1
      have h5 := at0_get (q2 h4)
      refine .inr ⟨h0, p2 h0, ?_, h4⟩
      unfold other
      rw [h1, h5.2.2]; rfl
    · rw [if_neg h4] at h1; omega
  · rw [if_neg h0] at h1
    by_cases h4 : 0 ≤ q
    · rw [if_pos h4] at h1
      have h5 := at0_get (q2 h4)
      omega
    · rw [if_neg h4] at h1
      exact .inl ⟨by omega, h1⟩
theorem other_facts {a b : Gr} (ha : right a = true) (hb : right b = true) (h : canon a = canon b) :
    (a.roots.length = b.roots.length ∧ ∀ (i : Nat) (p q : Int), a.roots[i]? = some p → b.roots[i]? = some q → Pair (· ∈ order a) (other a b) p q) ∧
    (∀ x y, x ∈ order a → y ∈ order a → other a b x = other a b y → x = y) ∧
    ∀ x ∈ order a, other a b x ∈ order b ∧ ((outs a x).length = (outs b (other a b x)).length ∧ ∀ (i : Nat) (p q : Int), (outs a x)[i]? = some p → (outs b (other a b x))[i]? = some q → Pair (· ∈ order a) (other a b) p q) ∧
      ((a.nodes[x.toNat]?).getD default).data = ((b.nodes[(other a b x).toNat]?).getD default).data := by
  have hn : (order a).map (canonNd a (order a)) = (order b).map (canonNd b (order b)) := congrArg Gr.nodes h
  have hr : movedL (order a) a.roots = movedL (order b) b.roots := congrArg Gr.roots h
  have hlen : (order a).length = (order b).length := by have := congrArg List.length hn; simpa using this
  have hget : ∀ x ∈ order a, (order b)[(at0 (order a) x).toNat]? = some (other a b x) := fun x hx => by
    have h1 := at0_get hx
    unfold other
    rw [List.getElem?_eq_getElem (by omega)]; rfl
  refine ⟨pairs_of_moved ha hb (fun p hp => ⟨(right_roots ha p hp).1, live_root ha hp⟩) (fun p hp => ⟨(right_roots hb p hp).1, live_root hb hp⟩) hr, fun x y hx hy he => ?_, fun x hx => ?_⟩
  · have h1 := hget x hx
    have h2 := hget y hy
    rw [← he] at h2
    have h3 := at0_get hx
    have h4 := at0_get hy
    have h5 := (List.getElem?_inj (by omega) (order_good hb).1).1 (h1.trans h2.symm)
    have h6 := h3.2.2
    rw [h5, h4.2.2] at h6
    cases h6; rfl
  · have h1 := hget x hx
    have h3 := at0_get hx
    have hob : other a b x ∈ order b := List.mem_of_getElem? h1
    have h4 : ((order a).map (canonNd a (order a)))[(at0 (order a) x).toNat]? = ((order b).map (canonNd b (order b)))[(at0 (order a) x).toNat]? := by rw [hn]
    rw [List.getElem?_map, List.getElem?_map, h3.2.2, h1] at h4
    simp only [Option.map_some, Option.some.injEq] at h4
    have h5 : movedL (order a) (outs a x) = movedL (order b) (outs b (other a b x)) := congrArg Nd.ptrs h4
    have hdd : (canonNd a (order a) x).data = (canonNd b (order b) (other a b x)).data := congrArg Nd.data h4
    exact ⟨hob, pairs_of_moved ha hb (fun p hp => ⟨(good_outs ha x p hp).1, live_out ha hx hp⟩) (fun p hp => ⟨(good_outs hb _ p hp).1, live_out hb hob hp⟩) h5, hdd⟩
/-- when all that is matched has been gone through, the graphs are alike -/
theorem sound {a b : Gr} (ha : right a = true) (hb : right b = true) {m : List Int} (hm : MOk m b.nodes.length)
    (hroots : a.roots.length = b.roots.length ∧ ∀ (i : Nat) (p q : Int), a.roots[i]? = some p → b.roots[i]? = some q → Matched m p q)
    (hstep : ∀ (p : Nat) (q : Int), m[p]? = some q → 0 ≤ q → ((outs a p).length = (outs b q).length ∧ ∀ (i : Nat) (x y : Int), (outs a p)[i]? = some x → (outs b q)[i]? = some y → Matched m x y) ∧ ((a.nodes[p]?).getD default).data = ((b.nodes[q.toNat]?).getD default).data) :
    canon a = canon b := by
  let f : Int → Int := fun x => if x < 0 then x else (m[x.toNat]?).getD 0
  have hf : ∀ {x y : Int}, Matched m x y → f x = y := by
    rintro x y (⟨h1, h2⟩ | ⟨h1, h2, h3⟩)
    · show (if x < 0 then x else _) = y
      rw [if_pos h1]; exact h2
    · show (if x < 0 then x else (m[x.toNat]?).getD 0) = y
      rw [if_neg (by omega), h3]; rfl
  have hmap : ∀ {ps qs : List Int}, ps.length = qs.length → (∀ (i : Nat) (x y : Int), ps[i]? = some x → qs[i]? = some y → Matched m x y) → qs = ps.map f := by
    intro ps qs hl hp
    apply List.ext_getElem?
    intro i
    rw [List.getElem?_map]
    by_cases hi : i < ps.length
    · have h1 : ps[i]? = some ps[i] := List.getElem?_eq_getElem hi
      have h2 : qs[i]? = some qs[i] := List.getElem?_eq_getElem (by omega)
      rw [h1, h2, Option.map_some, hf (hp i _ _ h1 h2)]
    · rw [List.getElem?_eq_none (by omega), List.getElem?_eq_none (by omega)]; rfl
  have hlive : ∀ x ∈ order a, 0 ≤ x ∧ ∃ q, 0 ≤ q ∧ m[x.toNat]? = some q := by
    refine order_ind (fun x hx h0 => ⟨h0, ?_⟩) fun x ⟨h0, q, hq0, hq⟩ y hy hy0 => ⟨hy0, ?_⟩
    · obtain ⟨i, hi⟩ := List.getElem?_of_mem hx
      have hil : i < a.roots.length := (List.getElem?_eq_some_iff.1 hi).1
      rcases hroots.2 i x _ hi (List.getElem?_eq_getElem (by omega)) with ⟨h1, _⟩ | ⟨_, h2, h3⟩
      · omega
      · exact ⟨_, h2, h3⟩
    · obtain ⟨i, hi⟩ := List.getElem?_of_mem hy
      obtain ⟨⟨hl, hp⟩, _⟩ := hstep x.toNat q hq hq0
      rw [Int.toNat_of_nonneg h0] at hl hp
      have hil : i < (outs a x).length := (List.getElem?_eq_some_iff.1 hi).1
      rcases hp i y _ hi (List.getElem?_eq_getElem (by omega)) with ⟨h1, _⟩ | ⟨_, h2, h3⟩
      · omega
      · exact ⟨_, h2, h3⟩
  have hfl : ∀ x ∈ order a, 0 ≤ f x ∧ m[x.toNat]? = some (f x) := fun x hx => by
    obtain ⟨h0, q, hq0, hq⟩ := hlive x hx
    have : f x = q := hf (.inr ⟨h0, hq0, hq⟩)
    rw [this]; exact ⟨hq0, hq⟩
  refine ((canon_iso ha hb f (by rfl) (fun x hx y hy he => ?_) (fun x hx => (hfl x hx).1) (hmap hroots.1 hroots.2) fun x hx => ?_).2).symm
  · obtain ⟨h1, h2⟩ := hfl x hx
    obtain ⟨h3, h4⟩ := hfl y hy
    rw [← he] at h4
    have := hm.inj _ _ _ h1 h2 h4
    have := (hlive x hx).1
    have := (hlive y hy).1
    omega
  · obtain ⟨h1, h2⟩ := hfl x hx
    obtain ⟨⟨hl, hp⟩, hd⟩ := hstep x.toNat (f x) h2 h1
    rw [Int.toNat_of_nonneg (hlive x hx).1] at hl hp
    have hlt := hm.lt _ (List.mem_of_getElem? h2)
    have hk : (f x).toNat < b.nodes.length := by omega
    have h3 := hmap hl hp
    rw [List.getElem?_eq_getElem hk] at hd ⊢
    have h4 : outs b (f x) = b.nodes[(f x).toNat].ptrs := by unfold outs; rw [List.getElem?_eq_getElem hk]; rfl
    rw [h4] at h3
    simp only [Option.getD_some] at hd
    simp only [Option.some.injEq]
    generalize b.nodes[(f x).toNat] = n at *
    cases n
    simp only at h3 hd
    rw [h3, hd]
end Vm
/-
  The reference's Alike tells whether the Canons are the same.
-/
namespace Vm
open Go Go.Proofs
set_option linter.unusedSimpArgs false
set_option linter.unusedVariables false
set_option maxRecDepth 100000
def notDone : V → Bool
  | .bool false => true
  | _ => false
theorem outs_get {g : Gr} {k : Nat} (h : k < g.nodes.length) : outs g k = g.nodes[k].ptrs := by
  unfold outs; simp [h]
def aliInv (a b : Gr) (t : St) : Prop := ∃ (m : List Int) (done : List Bool) (ok : Bool), m.length = a.nodes.length ∧ done.length = a.nodes.length ∧ MOk m b.nodes.length ∧ (∀ p : Nat, done[p]? = some true → ∃ q, m[p]? = some q ∧ 0 ≤ q) ∧
      (ok = true → (a.roots.length = b.roots.length ∧ ∀ (i : Nat) (p q : Int), a.roots[i]? = some p → b.roots[i]? = some q → Matched m p q) ∧
        ∀ (p : Nat) (q : Int), done[p]? = some true → m[p]? = some q → ((outs a p).length = (outs b q).length ∧ ∀ (i : Nat) (x y : Int), (outs a p)[i]? = some x → (outs b q)[i]? = some y → Matched m x y) ∧ ((a.nodes[p]?).getD default).data = ((b.nodes[q.toNat]?).getD default).data) ∧
      (canon a = canon b → ok = true ∧ Sub m (· ∈ order a) (other a b)) ∧
      t = [.v (grV a), .v (grV b), .m [.sl (a.nodes.map ndV), .sl (a.roots.map vi)], .m [.sl (b.nodes.map ndV), .sl (b.roots.map vi)], .v (.bool false), .v (.bool true), .v (.bool true), .v (.bool false), .v (.sl (m.map vi)), .v (vi a.nodes.length), .v (.bool false), .v (.bool ok), .v (.sl (done.map V.bool))]
def aliAt (a b : Gr) (m : List Int) (done : List Bool) (t : St) : Prop := ∃ (i : Nat) (at_ : Int), i ≤ m.length ∧ ((at_ = -1 ∧ ∀ (j : Nat) (q : Int), j < i → m[j]? = some q → 0 ≤ q → done[j]? = some true) ∨ ∃ k : Nat, at_ = k ∧ k < m.length ∧ (∃ q, m[k]? = some q ∧ 0 ≤ q) ∧ done[k]? = some false) ∧
      t = [.v (grV a), .v (grV b), .m [.sl (a.nodes.map ndV), .sl (a.roots.map vi)], .m [.sl (b.nodes.map ndV), .sl (b.roots.map vi)], .v (.bool false), .v (.bool true), .v (.bool true), .v (.bool false), .v (.sl (m.map vi)), .v (vi a.nodes.length), .v (.bool false), .v (.bool true), .v (.sl (done.map V.bool)), .v (.bool true), .v (vi at_), .v (vi i)]
theorem refAlike_vc {a b : Gr} (hsa : a.sm) (hsb : b.sm) : VC Try.prog 27 false [grV a, grV b] (.bool (alike a b)) := by
  refine vc_of_wp Try.func27 follows (by kernel_rfl) c27 rfl ?_
  simp [p27]
  refine callW_of (refRight_vc hsa) (by simp) ?_
  simp
  refine callW_of (refRight_vc hsb) (by simp) ?_
  cases hra : right a
  · simp [alike, hra]
  cases hrb : right b
  · simp [alike, hra, hrb]
  have hal : alike a b = decide (canon a = canon b) := by simp [alike, hra, hrb]
  rw [hal]
  obtain ⟨ha1, ha2, ha3⟩ := hsa
  obtain ⟨hb1, hb2, hb3⟩ := hsb
  have hlim : ∀ n : Nat, n ≤ 100000 → n ≤ lim := fun n h => by simp [lim]; omega
  simp
  refine wpS_loop (fun t => ∃ i : Nat, i ≤ a.nodes.length ∧ t = [.v (grV a), .v (grV b), .m [.sl (a.nodes.map ndV), .sl (a.roots.map vi)], .m [.sl (b.nodes.map ndV), .sl (b.roots.map vi)], .v (.bool false), .v (.bool true), .v (.bool true), .v (.bool false), .v (.sl ((List.replicate i (-1)).map vi)), .v (vi i)]) (fun t => match get t 9 with | .v (.int _ n) => a.nodes.length - n.toNat | _ => 0) ?_ ?_
  · exact ⟨0, by simp, by simp⟩
  rintro t ⟨i, hi, rfl⟩
  by_cases h : i < a.nodes.length
  · have hw := wrap_i ((i : Int) + 1) (by omega) (by omega)
    simp [h, hw]
    exact ⟨by simp [lim]; omega, ⟨i + 1, by omega, by simp [List.replicate_succ'], by simp⟩, by omega⟩
  have : i = a.nodes.length := by omega
  subst this
  clear hi h
  -- the roots
  have hM0 : MOk (List.replicate a.nodes.length (-1)) b.nodes.length := ⟨fun i j q hq h1 => by
    have := (List.mem_replicate.1 (List.mem_of_getElem? h1)).2; omega, fun q hq => by have := (List.mem_replicate.1 hq).2; omega⟩
  have hS0 : Sub (List.replicate a.nodes.length (-1)) (· ∈ order a) (other a b) := fun p q h1 hq => by
    have := (List.mem_replicate.1 (List.mem_of_getElem? h1)).2; omega
  have hrlt : ∀ p ∈ a.roots, p < (List.replicate a.nodes.length (-1 : Int)).length := fun p hp => by
    rw [List.length_replicate]; exact (right_roots hra p hp).2
  have hav := all_vc (m := List.replicate a.nodes.length (-1)) (us := a.roots) (ws := b.roots) (by rw [List.length_replicate]; omega) ha2 hrlt
  simp [-List.map_replicate]
  refine callW_of hav (by simp) ?_
  simp [hlim _ ha1, flV, V.flatc, -List.map_replicate]
  -- what holds of the first ones
  have hfirst : (allL (List.replicate a.nodes.length (-1)) a.roots b.roots).1.length = a.nodes.length ∧
      MOk (allL (List.replicate a.nodes.length (-1)) a.roots b.roots).1 b.nodes.length ∧
      ((allL (List.replicate a.nodes.length (-1)) a.roots b.roots).2 = true → a.roots.length = b.roots.length ∧ ∀ (i : Nat) (p q : Int), a.roots[i]? = some p → b.roots[i]? = some q → Matched (allL (List.replicate a.nodes.length (-1)) a.roots b.roots).1 p q) ∧
      (canon a = canon b → (allL (List.replicate a.nodes.length (-1)) a.roots b.roots).2 = true ∧ Sub (allL (List.replicate a.nodes.length (-1)) a.roots b.roots).1 (· ∈ order a) (other a b)) := by
    unfold allL
    by_cases hl : a.roots.length = b.roots.length
    · rw [if_pos hl]
      refine ⟨?_, ?_, ?_, ?_⟩
      · rw [allF_len rfl, List.length_replicate]
      · cases hok : (allF (List.replicate a.nodes.length (-1)) (List.replicate a.nodes.length (-1)) a.roots b.roots).2
        · have : ∀ {us ws m : List Int}, (allF (List.replicate a.nodes.length (-1)) m us ws).2 = false → (allF (List.replicate a.nodes.length (-1)) m us ws).1 = List.replicate a.nodes.length (-1) := by
            intro us
            induction us with
            | nil => intro ws m h; simp [allF] at h
            | cons u us ih =>
              intro ws m h
              cases ws with
              | nil => simp [allF] at h
              | cons w ws =>
                simp only [allF] at h ⊢
                split
                · rename_i hc; rw [if_pos hc] at h; exact ih h
                · rfl
          rw [this hok]; exact hM0
        · exact (allF_ok hM0 hrlt (fun q hq => (right_roots hrb q hq).2) hok hl).1
      · exact fun hok => ⟨hl, (allF_ok hM0 hrlt (fun q hq => (right_roots hrb q hq).2) hok hl).2.2⟩
      · intro hc
        obtain ⟨h1, h2, h3⟩ := other_facts hra hrb hc
        exact allF_sub h2 hS0 hrlt h1.2
    · rw [if_neg hl]
      refine ⟨by simp, hM0, fun h => by simp at h, fun hc => ?_⟩
      obtain ⟨h1, h2, h3⟩ := other_facts hra hrb hc
      exact (hl h1.1).elim
  generalize allL (List.replicate a.nodes.length (-1)) a.roots b.roots = r0 at hfirst
  obtain ⟨m0, ok0⟩ := r0
  obtain ⟨hf1, hf2, hf3, hf4⟩ := hfirst
  simp only at hf1 hf2 hf3 hf4
  refine wpS_loop (aliInv a b)
    (fun t => match get t 12 with | .v (.sl l) => l.countP notDone | _ => 0) ?_ ?_
  · refine ⟨m0, List.replicate a.nodes.length false, ok0, hf1, by simp, hf2, fun p hp => ?_, fun hok => ⟨hf3 hok, fun p q hp => ?_⟩, hf4, by simp⟩
    · have := (List.mem_replicate.1 (List.mem_of_getElem? hp)).2; simp at this
    · have := (List.mem_replicate.1 (List.mem_of_getElem? hp)).2; simp at this
  clear hf1 hf2 hf3 hf4 hM0 hS0 hav hrlt m0 ok0
  rintro t ⟨m, done, ok, hm, hdl, hMOk, hdone, hok, hcan, rfl⟩
  cases ok
  · -- not alike
    simp
    intro hc
    have := (hcan hc).1
    simp at this
  simp
  -- the last one that has not been gone through
  refine wpS_loop (aliAt a b m done)
    (fun t => match get t 15 with | .v (.int _ n) => m.length - n.toNat | _ => 0) ?_ ?_
  · exact ⟨0, -1, by simp, .inl ⟨rfl, fun j q hj => by omega⟩, by simp⟩
  rintro t ⟨i, at_, hi, hat, rfl⟩
  by_cases h : i < m.length
  · have hx : m[i]? = some m[i] := List.getElem?_eq_getElem h
    have hid : i < done.length := by omega
    have hdx : done[i]? = some done[i] := List.getElem?_eq_getElem hid
    have hw := wrap_i ((i : Int) + 1) (by omega) (by omega)
    by_cases h0 : 0 ≤ m[i]
    · cases hd : done[i]
      · simp [h, hid, h0, hd, hw]
        exact ⟨⟨i + 1, i, by omega, .inr ⟨i, rfl, h, ⟨_, hx, h0⟩, by rw [hdx, hd]⟩, by simp⟩, by omega⟩
      · simp [h, hid, h0, hd, hw]
        refine ⟨⟨i + 1, at_, by omega, ?_, by simp⟩, by omega⟩
        rcases hat with ⟨h1, h2⟩ | h1
        · refine .inl ⟨h1, fun j q hj hq hq0 => ?_⟩
          by_cases e : j = i
          · subst e; rw [hdx, hd]
          · exact h2 j q (by omega) hq hq0
        · exact .inr h1
    · simp [h, hid, h0, hw]
      refine ⟨⟨i + 1, at_, by omega, ?_, by simp⟩, by omega⟩
      rcases hat with ⟨h1, h2⟩ | h1
      · refine .inl ⟨h1, fun j q hj hq hq0 => ?_⟩
        by_cases e : j = i
        · subst e; rw [hx] at hq; simp only [Option.some.injEq] at hq; omega
        · exact h2 j q (by omega) hq hq0
      · exact .inr h1
  have : i = m.length := by omega
  subst this
  rcases hat with ⟨rfl, hall⟩ | ⟨k, rfl, hk, ⟨q, hq, hq0⟩, hkd⟩
  · -- alike
    simp
    obtain ⟨h1, h2⟩ := hok rfl
    exact sound hra hrb hMOk h1 fun p q hp hq0 => h2 p q (hall p q (List.getElem?_eq_some_iff.1 hp).1 hp hq0) hp
  · have hka : k < a.nodes.length := by omega
    have hkdl : k < done.length := by omega
    have hdk : done[k] = false := by rw [List.getElem?_eq_getElem hkdl] at hkd; simpa using hkd
    have hmk : m[k] = q := by rw [List.getElem?_eq_getElem hk] at hq; simpa using hq
    have hqb := hMOk.lt q (List.mem_of_getElem? hq)
    obtain ⟨j, rfl⟩ := Int.eq_ofNat_of_zero_le hq0
    have hjb : j < b.nodes.length := by omega
    obtain ⟨s1, s2⟩ := ha3 _ (List.getElem_mem hka)
    have hplt : ∀ p ∈ a.nodes[k].ptrs, p < m.length := fun p hp => by rw [hm]; exact (right_ptrs hra _ (List.getElem_mem hka) p hp).2
    have hqlt : ∀ p ∈ b.nodes[j].ptrs, p < b.nodes.length := fun p hp => (right_ptrs hrb _ (List.getElem_mem hjb) p hp).2
    simp [hk, hka, hkdl, hmk, hjb]
    refine callW_of (all_vc (by omega) s1 hplt) (by simp) ?_
    -- the next list
    have hnext : (allL m a.nodes[k].ptrs b.nodes[j].ptrs).1.length = m.length ∧ ((allL m a.nodes[k].ptrs b.nodes[j].ptrs).2 = false → (allL m a.nodes[k].ptrs b.nodes[j].ptrs).1 = m) ∧
        ((allL m a.nodes[k].ptrs b.nodes[j].ptrs).2 = true → MOk (allL m a.nodes[k].ptrs b.nodes[j].ptrs).1 b.nodes.length ∧ Ext m (allL m a.nodes[k].ptrs b.nodes[j].ptrs).1 ∧ a.nodes[k].ptrs.length = b.nodes[j].ptrs.length ∧
          ∀ (i : Nat) (x y : Int), a.nodes[k].ptrs[i]? = some x → b.nodes[j].ptrs[i]? = some y → Matched (allL m a.nodes[k].ptrs b.nodes[j].ptrs).1 x y) ∧
        (canon a = canon b → (allL m a.nodes[k].ptrs b.nodes[j].ptrs).2 = true ∧ Sub (allL m a.nodes[k].ptrs b.nodes[j].ptrs).1 (· ∈ order a) (other a b) ∧ a.nodes[k].data = b.nodes[j].data) := by
      have hcc : canon a = canon b → (k : Int) ∈ order a ∧ (j : Int) = other a b k := fun hc => by
        have := (hcan hc).2 k j hq (by omega)
        exact this
      unfold allL
      by_cases hl : a.nodes[k].ptrs.length = b.nodes[j].ptrs.length
      · rw [if_pos hl]
        refine ⟨allF_len rfl, ?_, fun hok' => ?_, fun hc => ?_⟩
        · have : ∀ {us ws m' : List Int}, (allF m m' us ws).2 = false → (allF m m' us ws).1 = m := by
            intro us
            induction us with
            | nil => intro ws m h; simp [allF] at h
            | cons u us ih =>
              intro ws m h
              cases ws with
              | nil => simp [allF] at h
              | cons w ws =>
                simp only [allF] at h ⊢
                split
                · rename_i hc; rw [if_pos hc] at h; exact ih h
                · rfl
          exact this
        · obtain ⟨h1, h2, h3⟩ := allF_ok hMOk hplt hqlt hok' hl
          exact ⟨h1, h2, hl, h3⟩
        · obtain ⟨h1, h2, h3⟩ := other_facts hra hrb hc
          obtain ⟨h4, h5⟩ := hcc hc
          obtain ⟨h6, ⟨h7, h8⟩, h9⟩ := h3 k h4
          rw [← h5] at h8 h9
          rw [outs_get hka, outs_get hjb] at h8
          obtain ⟨g1, g2⟩ := allF_sub (m0 := m) h2 (hcan hc).2 hplt h8
          exact ⟨g1, g2, by simpa [hka, hjb] using h9⟩
      · rw [if_neg hl]
        refine ⟨rfl, fun _ => rfl, fun h => by simp at h, fun hc => ?_⟩
        obtain ⟨h1, h2, h3⟩ := other_facts hra hrb hc
        obtain ⟨h4, h5⟩ := hcc hc
        obtain ⟨h6, ⟨h7, h8⟩, h9⟩ := h3 k h4
        rw [← h5, outs_get hka, outs_get hjb] at h7
        exact (hl h7).elim
    generalize allL m a.nodes[k].ptrs b.nodes[j].ptrs = r at hnext
    obtain ⟨m', fit⟩ := r
    obtain ⟨n1, n2, n3, n4⟩ := hnext
    simp only at n1 n2 n3 n4
    -- what holds behind the step
    have hcnt : List.countP notDone ((done.map V.bool).set k (.bool true)) < List.countP notDone (done.map V.bool) := by
      have h1 : k < (done.map V.bool).length := by simpa using hkdl
      rw [List.countP_set h1]
      have h2 : notDone ((done.map V.bool)[k]) = true := by simp [hdk, notDone]
      have h3 : 0 < List.countP notDone (done.map V.bool) := List.countP_pos_iff.2 ⟨_, List.getElem_mem h1, h2⟩
      rw [if_pos h2, if_neg (by simp [notDone])]
      omega
    have hinv : ∀ ok' : Bool, (ok' = true → fit = true ∧ a.nodes[k].data = b.nodes[j].data) → (fit = true → a.nodes[k].data = b.nodes[j].data → ok' = true) →
        m'.length = a.nodes.length ∧ (done.set k true).length = a.nodes.length ∧ MOk m' b.nodes.length ∧ (∀ p : Nat, (done.set k true)[p]? = some true → ∃ q, m'[p]? = some q ∧ 0 ≤ q) ∧
        (ok' = true → (a.roots.length = b.roots.length ∧ ∀ (i : Nat) (p q : Int), a.roots[i]? = some p → b.roots[i]? = some q → Matched m' p q) ∧
          ∀ (p : Nat) (q : Int), (done.set k true)[p]? = some true → m'[p]? = some q → ((outs a p).length = (outs b q).length ∧ ∀ (i : Nat) (x y : Int), (outs a p)[i]? = some x → (outs b q)[i]? = some y → Matched m' x y) ∧ ((a.nodes[p]?).getD default).data = ((b.nodes[q.toNat]?).getD default).data) ∧
        (canon a = canon b → ok' = true ∧ Sub m' (· ∈ order a) (other a b)) := by
      intro ok' o1 o2
      have hstill : ∀ (p : Nat) (q : Int), m[p]? = some q → 0 ≤ q → m'[p]? = some q := fun p q hp hq0 => by
        cases hfit : fit
        · rw [n2 hfit]; exact hp
        · rcases (n3 hfit).2.1 p q (.inr ⟨by omega, hq0, by simpa using hp⟩) with ⟨h1, _⟩ | ⟨_, _, h3⟩
          · omega
          · simpa using h3
      refine ⟨by rw [n1, hm], by simp [hdl], ?_, fun p hp => ?_, fun ho => ?_, fun hc => ?_⟩
      · cases hfit : fit
        · rw [n2 hfit]; exact hMOk
        · exact (n3 hfit).1
      · rw [List.getElem?_set] at hp
        by_cases e : k = p
        · subst e; exact ⟨j, hstill k j hq (by omega), by omega⟩
        · rw [if_neg e] at hp
          obtain ⟨q, h1, h2⟩ := hdone p hp
          exact ⟨q, hstill p q h1 h2, h2⟩
      · obtain ⟨hfit, hdat⟩ := o1 ho
        obtain ⟨_, h2, h3, h4⟩ := n3 hfit
        obtain ⟨g1, g2⟩ := hok rfl
        refine ⟨⟨g1.1, fun i p q hp hq => h2 _ _ (g1.2 i p q hp hq)⟩, fun p q hp hq' => ?_⟩
        rw [List.getElem?_set] at hp
        by_cases e : k = p
        · subst e
          rw [hstill k j hq (by omega)] at hq'
          cases hq'
          rw [outs_get hka, outs_get hjb]
          exact ⟨⟨h3, h4⟩, by simp [hka, hjb, hdat]⟩
        · rw [if_neg e] at hp
          obtain ⟨q', h5, h6⟩ := hdone p hp
          have h7 := hstill p q' h5 h6
          rw [h7] at hq'
          cases hq'
          obtain ⟨⟨e1, e2⟩, e3⟩ := g2 p _ hp h5
          exact ⟨⟨e1, fun i x y hx hy => h2 _ _ (e2 i x y hx hy)⟩, e3⟩
      · obtain ⟨h1, h2, h3⟩ := n4 hc
        exact ⟨o2 h1 h3, h2⟩
    have hset : (done.map V.bool).set k (.bool true) = (done.set k true).map V.bool := by rw [List.map_set]
    cases hfit : fit
    · obtain ⟨i1, i2, i3, i4, i5, i6⟩ := hinv false (by simp) (by simp [hfit])
      simp [hfit, V.put, setCells]
      exact ⟨⟨m', done.set k true, false, i1, i2, i3, i4, i5, i6, by rw [hset]⟩, by rw [← List.countP_map]; exact hcnt⟩
    · simp [hfit, V.put, setCells]
      refine callW_of (nums_vc s2) (by simp) ?_
      obtain ⟨i1, i2, i3, i4, i5, i6⟩ := hinv (decide (a.nodes[k].data = b.nodes[j].data)) (by simp [hfit]) (by simp [hfit])
      simp
      exact ⟨⟨m', done.set k true, _, i1, i2, i3, i4, i5, i6, by rw [hset]⟩, by rw [← List.countP_map]; exact hcnt⟩
end Vm
