/-
  A region runs.
-/
import Derived.Test.YtbmgnmjghhakhaaVr
namespace Vm
open Go
open Go.RowKit (Below)
set_option linter.unusedSimpArgs false
set_option linter.unusedVariables false
section
variable {c : Ctx} {B : Nat} {G : Nat → Prop} {s : St} {a a' : Act} {w w' w0 : World} {h h' : GH} {g0 : Gam} {ops : Array Oper} {xs : List XS} {draw : Bool} {L : Nat → Bool} {n0 : Nat} {ds : List Deferred}

theorem stepOp_rb {lets : List Nat} {all : Gam} {o : Oper} {os : OS} (hst : stepOp c lets ops all o = some os) : ∀ t ∈ os.rb, t ∈ os.ps := by
  unfold stepOp at hst
  simp only at hst
  split at hst
  · cases hst
  · simp only [Option.bind_eq_some_iff] at hst
    obtain ⟨C, _, hst⟩ := hst
    split at hst
    · unfold stepCallM at hst
      split at hst
      · cases hst
      · simp only [Option.bind_eq_some_iff] at hst
        obtain ⟨as, _, hst⟩ := hst
        split at hst
        · cases hst
        · simp only [Option.some.injEq] at hst
          subst hst
          intro t ht
          rcases List.mem_singleton.1 ht with rfl
          simp
    · cases hst
    split at hst
    · unfold stepCall at hst
      split at hst
      · cases hst
      · simp only [Option.map_eq_some_iff] at hst
        obtain ⟨as, _, rfl⟩ := hst
        exact fun t ht => ht
    · cases hst
    · split at hst
      · unfold stepPK at hst
        split at hst
        · split at hst
          · split at hst
            · cases hst
            · simp only [Option.some.injEq] at hst
              subst hst
              exact fun t ht => ht
          · cases hst
        · split at hst
          · cases hst
          · simp only [Option.some.injEq] at hst
            subst hst
            exact fun t ht => ht
      · split at hst
        · cases hst
        · simp only [Option.bind_eq_some_iff] at hst
          obtain ⟨m, _, hst⟩ := hst
          split at hst
          · rename_i hsub
            simp only [Bool.and_eq_true, List.all_eq_true, List.contains_eq_mem, decide_eq_true_eq] at hsub
            simp only [Option.some.injEq] at hst
            subst hst
            exact hsub.1.2
          · cases hst

/-- what has not been turned since -/
structure Frm (Kf : Nat → Prop) (fx : Nat → Prop) (T0 : Array Value) (B : Nat) (w0 : World) (a : Act) (w : World) : Prop where
  below : Below B w0 w
  same : Same Kf w0 w
  fix : ∀ t, fx t → a.tmps[t]? = T0[t]?
theorem Frm.refl {Kf fx : Nat → Prop} {B : Nat} (a : Act) (w : World) : Frm Kf fx a.tmps B w a w := ⟨.refl _ _, .refl _ _, fun _ _ => rfl⟩
theorem Frm.trans {Kf fx : Nat → Prop} {T0 : Array Value} {B : Nat} {w0 w w' : World} {a a' : Act} (h : Frm Kf fx T0 B w0 a w) (h' : Frm Kf fx a.tmps B w a' w') : Frm Kf fx T0 B w0 a' w' :=
  ⟨h.below.trans h'.below, h.same.trans h'.same, fun t ht => (h'.fix t ht).trans (h.fix t ht)⟩
variable {Kf fx : Nat → Prop} {T0 : Array Value}
theorem Step.K_same {ps rb fz : List Nat} (hs : Step B ps rb fz w w' h h') (hok : Ok B G w h) : Same h.K w w' :=
  fun b hb => hs.same b (hok.k_lt b hb) fun p _ i hi => hok.k_bl p i b hi hb

/-- how things stand when those of L have run -/
def RInv (Kf fx : Nat → Prop) (T0 : Array Value) (c : Ctx) (B : Nat) (G : Nat → Prop) (s : St) (g0 : Gam) (xs : List XS) (w0 : World) (n0 : Nat) (ds : List Deferred) (L : Nat → Bool) (a : Act) (w : World) : Prop :=
  (∃ h, RelG c B G s a w h (gL xs 0 L g0) ∧ h.K = Kf) ∧ Frm Kf fx T0 B w0 a w ∧ a.tmps.size = n0 ∧ a.defers = ds ∧ Closed xs L

theorem region_step (hfx : ∀ o ∈ ops, ∀ d, o.dst = some d → ¬ fx d) (hf : Reg.Fine c draw ops g0 xs) (hs : ∀ x ∈ xs, okOS c.P s x.os) (hn : c.n ≤ n0) (hI : RInv Kf fx T0 c B G s g0 xs w0 n0 ds L a w) {i : Nat} {x : XS} (hx : xs[i]? = some x) (hi : L i = false) (hT : ∀ j ∈ x.T, L j = true)
    {Q : Exit → Act → World → Prop} {K : Act → World → Prop} (hK : ∀ a' w', RInv Kf fx T0 c B G s g0 xs w0 n0 ds (add L i) a' w' → K a' w') : wpOp c.P ops Q i K a w := by
  obtain ⟨⟨h, hr, hKf⟩, hb, hsz, hds, hcl⟩ := hI
  have hlt : i < ops.size := by rw [← hf.len]; exact (List.getElem?_eq_some_iff.1 hx).1
  obtain ⟨e1, e2, e3, e4⟩ := hf.at_ i ops[i] x (Array.getElem?_eq_getElem hlt) hx
  have hro := hf.only hcl hr hx hi hT
  have hrb := stepOp_rb e1
  refine stepOp_run (R := x.R) (Array.getElem?_eq_getElem hlt) e2 hro e1 (hs x (List.mem_of_getElem? hx)) (by rw [hsz]; exact hn) fun a' w' h' hp hput => hK a' w' ⟨⟨h', hf.next hcl hr hx hi hrb hT hp, hp.step.K.trans hKf⟩, hb.trans ⟨hp.step.below, by rw [← hKf]; exact hp.step.K_same hr.ok, fun t ht => ?_⟩, by rw [hp.size, hsz], by rw [hp.defers, hds], closed_add hcl hx hT⟩
  obtain ⟨u, rfl⟩ := hput
  cases hd : (ops[i]).dst with
  | none => rfl
  | some d => exact put_ne (fun e => by subst e; exact hfx _ (Array.getElem_mem hlt) t hd ht) u

theorem region_text (hfx : ∀ o ∈ ops, ∀ d, o.dst = some d → ¬ fx d) (hf : Reg.Fine c false ops g0 xs) (hs : ∀ x ∈ xs, okOS c.P s x.os) (hn : c.n ≤ n0) {Q : Exit → Act → World → Prop} (hQ : ∀ a w, RInv Kf fx T0 c B G s g0 xs w0 n0 ds (fun i => decide (i < ops.size)) a w → Q .normal a w) :
    ∀ (m k : Nat) (a : Act) (w : World), k + m = ops.size → RInv Kf fx T0 c B G s g0 xs w0 n0 ds (fun i => decide (i < k)) a w → wpOps c.P ops Q (List.range' k m) a w
  | 0, k, a, w, hk, hI => by
    simp only [List.range'_zero, wpOps]
    have : k = ops.size := by omega
    subst this
    exact hQ a w hI
  | m + 1, k, a, w, hk, hI => by
    rw [List.range'_succ, wpOps_cons]
    have hlt : k < xs.length := by rw [hf.len]; omega
    have hlt' : k < ops.size := by omega
    obtain ⟨_, _, e3, _⟩ := hf.at_ k ops[k] xs[k] (Array.getElem?_eq_getElem hlt') (List.getElem?_eq_getElem hlt)
    refine region_step hfx hf hs hn hI (List.getElem?_eq_getElem hlt) (by simp) (fun j hj => ?_) fun a' w' hI' => region_text hfx hf hs hn hQ m (k + 1) a' w' (by omega) ?_
    · rw [e3] at hj
      simp only [waits, Bool.false_eq_true, if_false, List.mem_range, List.length_take] at hj
      simp; omega
    · have : add (fun i => decide (i < k)) k = fun i => decide (i < k + 1) := by
        funext i
        simp only [add]
        by_cases h1 : i < k
        · have h2 : i < k + 1 := by omega
          simp [h1, h2]
        · by_cases h2 : i = k
          · subst h2; simp
          · have h3 : ¬ i < k + 1 := by omega
            simp [h1, h2, h3]
      rw [this] at hI'
      exact hI'

/-- how many have not run -/
def unl (n : Nat) (L : Nat → Bool) : Nat := ((List.range n).filter fun i => !L i).length
theorem filter_lt {p q : Nat → Bool} : ∀ {l : List Nat}, (∀ i ∈ l, q i = true → p i = true) → (∃ i ∈ l, p i = true ∧ q i = false) → (l.filter q).length < (l.filter p).length
  | [], _, ⟨i, hi, _⟩ => by simp at hi
  | x :: l, hpq, ⟨i, hi, h1, h2⟩ => by
    have hle : ∀ (l : List Nat), (∀ i ∈ l, q i = true → p i = true) → (l.filter q).length ≤ (l.filter p).length := by
      intro l
      induction l with
      | nil => intro _; simp
      | cons y l ih =>
        intro hl
        have := ih fun i hi => hl i (by simp [hi])
        have hy := hl y (by simp)
        simp only [List.filter_cons]
        split
        · rename_i hq
          rw [if_pos (hy hq)]
          simp; exact this
        · split
          · simp; omega
          · exact this
    have hx := hpq x (by simp)
    have hl := hle l fun i hi => hpq i (by simp [hi])
    simp only [List.filter_cons]
    rcases List.mem_cons.1 hi with rfl | hi
    · rw [h1, h2]
      simp; omega
    · have := filter_lt (l := l) (fun i hi => hpq i (by simp [hi])) ⟨i, hi, h1, h2⟩
      split
      · rename_i hq
        rw [if_pos (hx hq)]
        simp; exact this
      · split
        · simp; omega
        · exact this
theorem unl_add {n : Nat} {L : Nat → Bool} {i : Nat} (hi : i < n) (hl : L i = false) : unl n (add L i) < unl n L :=
  filter_lt (fun j _ hj => by simp only [add, Bool.not_eq_true', Bool.or_eq_false_iff] at hj ⊢; exact hj.1) ⟨i, by simpa using hi, by simp [hl], by simp [add]⟩
theorem unl_zero {n : Nat} {L : Nat → Bool} (h : unl n L = 0) : ∀ i, i < n → L i = true := by
  intro i hi
  cases hl : L i with
  | true => rfl
  | false =>
    have : i ∈ (List.range n).filter fun i => !L i := by simp [hi, hl]
    have h0 := List.eq_nil_of_length_eq_zero h
    rw [h0] at this; simp at this

theorem mem_edges {o : Oper} {e : Edge} (he : e ∈ o.after) (hb : Region.binds .any e = true) : e.on ∈ edgesOf o := by
  simp only [edgesOf, List.mem_map, List.mem_filter]
  exact ⟨e, ⟨Array.mem_toList_iff.2 he, hb⟩, rfl⟩
theorem edges_mem {o : Oper} {j : Nat} (hj : j ∈ edgesOf o) : ∃ e ∈ o.after, Region.binds .any e = true ∧ e.on = j := by
  simp only [edgesOf, List.mem_map, List.mem_filter] at hj
  obtain ⟨e, ⟨h1, h2⟩, h3⟩ := hj
  exact ⟨e, Array.mem_toList_iff.1 h1, h2, h3⟩

theorem region_any (hfx : ∀ o ∈ ops, ∀ d, o.dst = some d → ¬ fx d) (hf : Reg.Fine c true ops g0 xs) (hs : ∀ x ∈ xs, okOS c.P s x.os) (hn : c.n ≤ n0) {Q : Exit → Act → World → Prop} (hQ : ∀ a w L, (∀ i, i < ops.size → L i = true) → RInv Kf fx T0 c B G s g0 xs w0 n0 ds L a w → Q .normal a w) :
    ∀ (fuel : Nat) (listed : Array Bool) (a : Act) (w : World), listed.size = ops.size → unl ops.size (fun i => listed.getD i false) ≤ fuel → RInv Kf fx T0 c B G s g0 xs w0 n0 ds (fun i => listed.getD i false) a w → wpAny c.P .any ops Q fuel listed a w := by
  have hgd : ∀ (listed : Array Bool) (i : Nat), listed.size = ops.size → i < ops.size → listed.getD i true = listed.getD i false := by
    intro listed i h1 h2
    simp [Array.getD_eq_getD_getElem?, h1, h2]
  have hempty : ∀ (listed : Array Bool), listed.size = ops.size → Region.ready .any ops listed = [] → ∀ i, i < ops.size → listed.getD i false = true := by
    intro listed hsz hr i
    induction i using Nat.strongRecOn with
    | _ i ih =>
      intro hi
      cases hl : listed.getD i false with
      | true => rfl
      | false =>
        have hlx : i < xs.length := by rw [hf.len]; exact hi
        obtain ⟨_, _, _, e4⟩ := hf.at_ i ops[i] xs[i] (Array.getElem?_eq_getElem hi) (List.getElem?_eq_getElem hlx)
        have : i ∈ Region.ready .any ops listed := mem_ready.2 ⟨by rw [hgd listed i hsz hi]; exact hl, ops[i], Array.getElem?_eq_getElem hi, fun e he hb => by
          have hlt := e4 rfl e.on (mem_edges he hb)
          exact ih e.on hlt (by omega)⟩
        rw [hr] at this; simp at this
  intro fuel
  induction fuel with
  | zero =>
    intro listed a w hsz hu hI
    have hall := unl_zero (Nat.le_zero.1 hu)
    refine ⟨?_, hQ a w _ hall hI⟩
    cases hr : Region.ready .any ops listed with
    | nil => rfl
    | cons i r =>
      have : i ∈ Region.ready .any ops listed := by rw [hr]; simp
      obtain ⟨h1, o, ho, _⟩ := mem_ready.1 this
      have hi : i < ops.size := (Array.getElem?_eq_some_iff.1 ho).1
      rw [hgd listed i hsz hi, hall i hi] at h1
      cases h1
  | succ fuel ih =>
    intro listed a w hsz hu hI
    refine ⟨fun hr => hQ a w _ (hempty listed hsz hr) hI, fun i hi => ?_⟩
    obtain ⟨h1, o, ho, hall⟩ := mem_ready.1 hi
    have hlt : i < ops.size := (Array.getElem?_eq_some_iff.1 ho).1
    have hlx : i < xs.length := by rw [hf.len]; exact hlt
    rw [hgd listed i hsz hlt] at h1
    obtain ⟨_, _, e3, e4⟩ := hf.at_ i o xs[i] ho (List.getElem?_eq_getElem hlx)
    have hcl := hI.2.2.2.2
    have hadd : (fun j => (listed.setIfInBounds i true).getD j false) = add (fun i => listed.getD i false) i := by
      funext j
      simp only [add]
      by_cases hji : j = i
      · subst hji
        have : j < listed.size := by omega
        simp [Array.getD_eq_getD_getElem?, this]
      · have : (listed.setIfInBounds i true).getD j false = listed.getD j false := getD_set_ne false (Ne.symm hji)
        rw [this]; simp [hji]
    refine region_step hfx hf hs hn hI (List.getElem?_eq_getElem hlx) h1 (fun j hj => ?_) fun a' w' hI' => ih _ a' w' (by simpa using hsz) ?_ (by rw [hadd]; exact hI')
    · rw [e3] at hj
      simp only [waits, if_true, List.mem_filter, List.mem_range, List.any_eq_true, Bool.or_eq_true, beq_iff_eq, List.contains_eq_mem, decide_eq_true_eq] at hj
      obtain ⟨_, e, he, hje⟩ := hj
      obtain ⟨ed, h2, h3, rfl⟩ := edges_mem he
      have hed := hall ed h2 h3
      rcases hje with rfl | hjT
      · exact hed
      · have hlte := e4 rfl ed.on he
        have hlxe : ed.on < xs.length := by omega
        unfold Tof at hjT
        rw [List.getElem?_take, if_pos hlte, List.getElem?_eq_getElem hlxe] at hjT
        exact hcl ed.on _ (List.getElem?_eq_getElem hlxe) hed j hjT
    · rw [hadd]
      have := unl_add (n := ops.size) (L := fun i => listed.getD i false) hlt h1
      omega

theorem RelG.drew {g : Gam} (hr : RelG c B G s a w h g) : RelG c B G s a { w with drawn := w.drawn + 1 } h g := by
  have hst : Step B [] [] [] w { w with drawn := w.drawn + 1 } h h := ⟨⟨rfl, rfl, rfl, Nat.le_refl _, fun _ _ => rfl⟩, fun _ _ _ => rfl, fun _ hb => hb, fun _ _ _ => rfl, fun _ _ => rfl, fun _ _ _ _ hm => (by simp at hm), rfl⟩
  have hok : Ok B G { w with drawn := w.drawn + 1 } h := ⟨hr.ok.base, hr.ok.f_lt, hr.ok.f_or, hr.ok.g_F, hr.ok.b_lt, hr.ok.inj, hr.ok.k_lt, hr.ok.k_bl, hr.ok.k_F⟩
  refine ⟨hok, fun t hC hn => ?_, hr.skip⟩
  obtain ⟨v, hv, hk⟩ := hr.at_ t hC hn
  exact ⟨v, hv, hk.keep hst hr.ok (fun _ h => h) (by simp) (fun h => by simp at h) (by
    have : intoOne [] (g.at t).2 = false := by cases (g.at t).2 <;> simp [intoOne]
    simp [calm, this]) fun _ _ => rfl⟩

/-- a region, from its checks: behind it all its operations' kinds hold -/
theorem region_run (hm : draw = true → c.P.follows .mixedOrders = true) {id : Nat} (hf : Reg.Fine c draw ops g0 xs) (hs : ∀ x ∈ xs, okOS c.P s x.os) (hn : c.n ≤ a.tmps.size) (hr : RelG c B G s a w h g0) (hfx : ∀ o ∈ ops, ∀ d, o.dst = some d → ¬ fx d)
    {Q : Exit → Act → World → Prop} (hQ : ∀ a' w' h', RelG c B G s a' w' h' (gAll xs g0) → h'.K = h.K → Frm h.K fx a.tmps B w a' w' → a'.tmps.size = a.tmps.size → a'.defers = a.defers → Q .normal a' w') : (Code.region id ops draw).wp c.P Q a w := by
  have hcl0 : ∀ (L : Nat → Bool), (∀ i, L i = false) → Closed xs L := fun L hL i x _ hi => by rw [hL i] at hi; cases hi
  have hg0 : ∀ (L : Nat → Bool), (∀ i, L i = false) → ∀ t, (gL xs 0 L g0).at t = g0.at t := fun L hL t => gL_same fun i x _ hi => by rw [hL] at hi; cases hi
  have hrel0 : ∀ {w : World} (L : Nat → Bool), (∀ i, L i = false) → RelG c B G s a w h g0 → RelG c B G s a w h (gL xs 0 L g0) := fun L hL hr =>
    ⟨hr.ok, fun t => by rw [hg0 L hL t]; exact hr.at_ t, fun t => by rw [hg0 L hL t]; exact hr.skip t⟩
  have hfin : ∀ {a' : Act} {w1 w' : World} (L : Nat → Bool), (∀ i, i < ops.size → L i = true) → RInv h.K fx a.tmps c B G s g0 xs w1 a.tmps.size a.defers L a' w' → Frm h.K fx a.tmps B w a w1 → Q .normal a' w' := by
    rintro a' w1 w' L hL ⟨⟨h', hr', hK'⟩, hb, h1, h2, _⟩ hb0
    refine hQ a' w' h' ?_ hK' (hb0.trans hb) h1 h2
    have hg : ∀ t, (gL xs 0 L g0).at t = (gAll xs g0).at t := by
      intro t
      have := gL_take (xs := xs) (k := 0) (j := xs.length) (g := g0)
      rw [List.take_length] at this
      rw [← this]
      refine gL_congr (fun i x hx _ => ?_) rfl
      have hlt := (List.getElem?_eq_some_iff.1 hx).1
      rw [Nat.zero_add, hL i (by rw [← hf.len]; exact hlt)]
      simp [hlt]
    exact ⟨hr'.ok, fun t => by rw [← hg t]; exact hr'.at_ t, fun t => by rw [← hg t]; exact hr'.skip t⟩
  cases draw with
  | false =>
    refine wp_region ?_
    rw [List.range_eq_range']
    refine region_text (Kf := h.K) (T0 := a.tmps) hfx hf hs hn (w0 := w) (n0 := a.tmps.size) (ds := a.defers) (fun a' w' hI => hfin _ (fun i hi => by simp [hi]) hI (Frm.refl _ _)) ops.size 0 a w (by omega) ⟨⟨h, hrel0 _ (fun i => by simp) hr, rfl⟩, Frm.refl _ _, rfl, rfl, hcl0 _ fun i => by simp⟩
  | true =>
    refine wp_region_any (hm rfl) ?_
    have hL0 : ∀ i, (Array.replicate ops.size false).getD i false = false := fun i => by
      simp only [Array.getD_eq_getD_getElem?, Array.getElem?_replicate]
      split <;> rfl
    refine region_any (Kf := h.K) (T0 := a.tmps) hfx hf hs hn (w0 := { w with drawn := w.drawn + 1 }) (n0 := a.tmps.size) (ds := a.defers) (fun a' w' L hL hI => hfin L hL hI ⟨⟨rfl, rfl, rfl, Nat.le_refl _, fun _ _ => rfl⟩, fun _ _ => rfl, fun _ _ => rfl⟩) ops.size _ a _ (by simp) ?_ ⟨⟨h, hrel0 _ hL0 hr.drew, rfl⟩, Frm.refl _ _, rfl, rfl, hcl0 _ hL0⟩
    exact Nat.le_trans (List.length_filter_le _ _) (by simp)
end
end Vm
