/-
  Operations that turn more than their own temporary (3): structs of own lists; append; all of them.
-/
import Derived.Test.YtbmgnmjghhakhaaVpa
namespace Vm
open Go
open Go.RowKit (Below)
set_option linter.unusedSimpArgs false
set_option linter.unusedVariables false

theorem slotOf_mem : ∀ {cs : List (CK × E)} {ts : List Nat} {i t : Nat}, slotOf cs ts i = some t → t ∈ ts
  | [], _, _, _, h => by simp [slotOf] at h
  | (k, e) :: cs, ts, i, t, h => by
    cases k with
    | own ty =>
      cases ts with
      | nil => simp [slotOf] at h
      | cons u ts =>
        cases i with
        | zero => simp [slotOf] at h; simp [h]
        | succ i => exact List.mem_cons_of_mem _ (slotOf_mem (by simpa [slotOf] using h))
    | _ =>
      cases i with
      | zero => simp [slotOf] at h
      | succ i => exact slotOf_mem (by simpa [slotOf] using h)
theorem slotOf_inj : ∀ {cs : List (CK × E)} {ts : List Nat} {i j t : Nat}, ts.Nodup → slotOf cs ts i = some t → slotOf cs ts j = some t → i = j
  | [], _, _, _, _, _, h, _ => by simp [slotOf] at h
  | (k, e) :: cs, ts, i, j, t, hn, h, h' => by
    cases k with
    | own ty =>
      cases ts with
      | nil => simp [slotOf] at h
      | cons u ts =>
        obtain ⟨h1, h2⟩ := List.nodup_cons.1 hn
        cases i with
        | zero =>
          cases j with
          | zero => rfl
          | succ j =>
            simp [slotOf] at h
            subst h
            exact absurd (slotOf_mem (by simpa [slotOf] using h')) h1
        | succ i =>
          cases j with
          | zero =>
            simp [slotOf] at h'
            subst h'
            exact absurd (slotOf_mem (by simpa [slotOf] using h)) h1
          | succ j => exact congrArg (· + 1) (slotOf_inj h2 (by simpa [slotOf] using h) (by simpa [slotOf] using h'))
    | _ =>
      cases i with
      | zero => simp [slotOf] at h
      | succ i =>
        cases j with
        | zero => simp [slotOf] at h'
        | succ j => exact congrArg (· + 1) (slotOf_inj hn (by simpa [slotOf] using h) (by simpa [slotOf] using h'))

section
variable {c : Ctx} {B : Nat} {G : Nat → Prop} {s : St} {a a' : Act} {w w' : World} {h h' : GH} {g : Gam} {C : Conds} {fz ps rb : List Nat}

theorem mkBuild_run (hr : RelG c B G s a w h g) {T : TypeId} {parts : Array (Nat × Operand)} {d : Nat} (hd : d < a.tmps.size) {m : MS} (hm : mkBuild c g d T parts.toList = some m) (hes : ∀ e ∈ m.es, ∃ z, eval s e = some z) :
    ∃ v h', (Instr.build T (parts.map fun (i, x) => (i, a.eval x))).run c.P w = .ok v w ∧ MPost c B G s (a.put (some d) v) w w h h' m := by
  unfold mkBuild at hm
  split at hm
  · rename_i fs hT
    simp only [Option.bind_eq_some_iff] at hm
    obtain ⟨zs, hz, b, hb, hm⟩ := hm
    split at hm
    · cases hm
    · rename_i hcond
      simp only [Bool.or_eq_true, Bool.not_eq_true', not_or, List.any_eq_true, not_exists, not_and, Bool.not_eq_false] at hcond
      obtain ⟨hts, hnd⟩ := hcond
      have hnd := nodupB_spec hnd
      have hts : ∀ t ∈ b.2.2, t ∉ b.2.1 ∧ t ≠ d := by
        intro t ht
        have := hts t ht
        simp only [List.contains_eq_mem, decide_eq_true_eq, beq_iff_eq] at this
        exact ⟨this.1.1, this.1.2⟩
      simp only [Option.some.injEq] at hm
      subst hm
      obtain ⟨z, hz1⟩ := hes _ (List.Mem.head _)
      have hz1' := hz1
      simp only [eval, Option.map_eq_some_iff] at hz1'
      obtain ⟨xs, hxs, hxz⟩ := hz1'
      obtain ⟨hl, hx⟩ := evals_map hxs
      obtain ⟨vs, hrun, hsz, howns, hcell⟩ := run_buildS hr (holds_ix0 s c) hT hz hb (fun ck hck => by
        obtain ⟨i, hi⟩ := List.getElem?_of_mem hck
        obtain ⟨x, _, he⟩ := hx i ck.2 (by rw [List.getElem?_map, hi]; rfl)
        exact ⟨x, he⟩)
      obtain ⟨hok1, _⟩ := thaw_step hr.ok b.2.1
      let f : Nat → Option Nat := fun i => match i with | 0 => none | i + 1 => (slotOf b.1 b.2.2 i).bind fun t => (h.thaw b.2.1).bl t 1
      have hf : ∀ i x, f i = some x → ∃ i' t, i = i' + 1 ∧ slotOf b.1 b.2.2 i' = some t ∧ (h.thaw b.2.1).bl t 1 = some x := by
        intro i x hi
        cases i with
        | zero => cases hi
        | succ i =>
          simp only [f, Option.bind_eq_some_iff] at hi
          obtain ⟨t, ht, hx⟩ := hi
          exact ⟨i, t, rfl, ht, hx⟩
      refine ⟨.agg vs, (h.thaw b.2.1).put d f (lost (h.thaw b.2.1) b.2.2), hrun, Step.after (step_put (Below.refl _ _) (fun _ _ _ => rfl) (by simp) (fun u hu => ⟨by simp [hu], by simp [hu]⟩) (fun hn => by simp at hn)),
        hok1.put (Nat.le_refl _) (fun u i b _ hb => (lost_some hb).1) (fun i x hx => ?_) (fun i j x hi hj => ?_) (fun i x u j hu hi hj => ?_), ent_one ⟨.agg vs, put_at hd _, vs, rfl, hsz, fun i ck hi => ?_⟩⟩
      · obtain ⟨_, t, _, _, h1⟩ := hf i x hx
        exact .inr ⟨t, 1, h1⟩
      · obtain ⟨i', t, rfl, ht, h1⟩ := hf i x hi
        obtain ⟨j', t', rfl, ht', h1'⟩ := hf j x hj
        have := (hok1.inj t 1 t' 1 x h1 h1').1
        subst this
        rw [slotOf_inj hnd ht ht']
      · obtain ⟨i', t, rfl, ht, h1⟩ := hf i x hi
        obtain ⟨k1, k2⟩ := lost_some hj
        exact k2 ((hok1.inj u j t 1 x k1 h1).1 ▸ slotOf_mem ht)
      · have hbl : ((h.thaw b.2.1).put d f (lost (h.thaw b.2.1) b.2.2)).bl d (i + 1) = (slotOf b.1 b.2.2 i).bind fun t => (h.thaw b.2.1).bl t 1 := by simp [GH.put, f]
        rw [hbl]
        have hc := hcell i ck hi
        unfold BRel at hc
        obtain ⟨kk, e⟩ := ck
        cases kk with
        | own ty =>
          obtain ⟨t, h1, h2, h3, y, hy, hown⟩ := hc
          refine ⟨y, hy, hown.mono (fun _ hb => .inl hb) ?_⟩
          rw [h1]
          simp [GH.thaw, (hts t h2).1]
        | nil => exact hc
        | fz =>
          obtain ⟨y, h1, h2, h3⟩ := hc
          exact ⟨y, h1, h2, h3.mono (thaw_ext fun p hp => hp)⟩
        | dead => exact hc.elim
  · cases hm

/-- more onto a list of the call's own -/
theorem append_core (hok : Ok B G w h) {o : Option Nat} (ho : ∀ b, o = some b → ∃ t i, h.bl t i = some b) {el T ty : TypeId} {x z : V} {v y : Value} (hv : OwnV c.P B w h o el x v) (hT : c.P.underlying T = some (.slice el)) (hel : elOk c.P el = true)
    {l2 : List V} {Gy : Nat → Prop} (hy : Rd w Gy (.sl l2) y) (hback : ∀ (i : Nat) (ck : V) (u : Value), (flat l2)[i]? = some ck → Rd w Gy ck u → Rd w h.F ck u) (hz : appV (c.P.cellsOf el) x (.sl l2) = some z) :
    ∃ v' w', (Builtin.append_ #[T, T] ty #[v, y]).run c.P w = .ok v' w' ∧ Below B w w' ∧ (∀ b, b < w.heap.size → o ≠ some b → w'.heap[b]? = w.heap[b]?) ∧
      (v'.ownBlock = o ∨ ∀ b, v'.ownBlock = some b → w.heap.size ≤ b ∧ b < w'.heap.size) ∧ ∀ h' : GH, h'.F = h.F → OwnV c.P B w' h' v'.ownBlock el z v' := by
  rcases hv with ⟨l, xs, rfl, h0, hfit, hown, hb, hrd⟩ | ⟨_, _, _, _, _, _, rfl, _⟩
  case inr => obtain ⟨_, _, hl', _⟩ := appV_some hz; cases hl'
  obtain ⟨l1, r, hl1, hr1, hlim, hsz, rfl⟩ := appV_some hz
  cases hl1; cases hr1
  obtain ⟨v', w', news, hrun, hown', hg, hor, hfit2, hnews⟩ := run_appendO (ty := ty) hT hel hown hok.base hy hsz hlim
  have hsame : ∀ b, b < w.heap.size → o ≠ some b → w'.heap[b]? = w.heap[b]? := fun b hb hn => hg.block b hb (by rw [‹v.ownBlock = o›]; exact fun e => hn e.symm)
  have hFs : Same h.F w w' := fun b hb => hsame b (hok.f_lt b hb) fun e => by
    obtain ⟨t, i, hi⟩ := ho b e
    exact (hok.b_lt t i b hi).2.2 hb
  refine ⟨v', w', hrun, (Below.refl B w).grown hg hok.base fun k hk => ?_, hsame, ?_, fun h' hF => .inl ⟨l ++ l2, xs ++ news, rfl, h0, fun x hx => ?_, by rw [List.length_append]; exact hown', rfl, fun i ck hi => ?_⟩⟩
  · rw [‹v.ownBlock = o›] at hk
    obtain ⟨t, i, hi⟩ := ho k hk
    exact (hok.b_lt t i k hi).1
  · rcases hor with h1 | ⟨h1, h2⟩
    · exact .inl (h1.trans hb)
    · exact .inr fun b hb => h2.lt b hb
  · rcases List.mem_append.1 hx with hx | hx
    · exact hfit x hx
    · exact hfit2 x hx
  · have hfl := flat_length hfit
    rw [flat_append] at hi
    by_cases hlt : i < (flat l).length
    · rw [List.getElem?_append_left hlt] at hi
      obtain ⟨u, hu, hr⟩ := hrd i ck hi
      exact ⟨u, by rw [List.getElem?_append_left (List.getElem?_eq_some_iff.1 hu).1]; exact hu, hr.keep hFs fun b hb => by rw [hF]; exact hb⟩
    · rw [List.getElem?_append_right (by omega)] at hi
      obtain ⟨u, hu, hr⟩ := hnews _ ck hi
      have hxl : xs.length = (flat l).length := by rw [hown.1, hfl]
      exact ⟨u, by rw [List.getElem?_append_right (by omega), hxl]; exact hu, (hback _ ck u hi hr).keep hFs fun b hb => by rw [hF]; exact hb⟩

theorem app_eval {e1 e2 : E} {k : Nat} {z : V} (hz : eval s (.app e1 e2 k) = some z) : ∃ x y, eval s e1 = some x ∧ eval s e2 = some y ∧ appV k x y = some z := by
  simp only [eval, Option.bind_eq_some_iff] at hz
  obtain ⟨x, hx, y, hy, hz⟩ := hz
  exact ⟨x, y, hx, hy, hz⟩

/-- the new list is the slot's own, and others have lost theirs -/
theorem append_put (hok : Ok B G w h) {t0 i0 d : Nat} {ts : List Nat} {o : Option Nat} (ho : ∀ b, o = some b → ∃ t ∈ ts, h.bl t 1 = some b) (hdt : d ∉ ts) {v' : Value} (hb : Below B w w') (hsame : ∀ b, b < w.heap.size → o ≠ some b → w'.heap[b]? = w.heap[b]?)
    (hor : v'.ownBlock = o ∨ ∀ b, v'.ownBlock = some b → w.heap.size ≤ b ∧ b < w'.heap.size) :
    Ok B G w' (h.put d (fun i => if i = 1 then v'.ownBlock else none) (lost h ts)) ∧ Step B (d :: ts) (d :: ts) [] w w' h (h.put d (fun i => if i = 1 then v'.ownBlock else none) (lost h ts)) := by
  have hf : ∀ i b, (if i = 1 then v'.ownBlock else none) = some b → i = 1 ∧ ((w.heap.size ≤ b ∧ b < w'.heap.size) ∨ ∃ t ∈ ts, h.bl t 1 = some b) := by
    intro i b hi
    split at hi
    · rename_i h1
      refine ⟨h1, ?_⟩
      rcases hor with h2 | h2
      · exact .inr (ho b (h2 ▸ hi))
      · exact .inl (h2 b hi)
    · cases hi
  refine ⟨hok.put hb.size (fun u i b _ hb => (lost_some hb).1) (fun i b hi => ?_) (fun i j b hi hj => by rw [(hf i b hi).1, (hf j b hj).1]) (fun i b u j hu hi hj => ?_),
    step_put hb (fun b hb hn => hsame b hb fun e => ?_) (by simp) (fun t ht => ⟨by simp [ht], by simp [ht]⟩) (fun hn => by simp at hn)⟩
  · rcases (hf i b hi).2 with h1 | ⟨t, _, h1⟩
    · exact .inl h1
    · exact .inr ⟨t, 1, h1⟩
  · obtain ⟨k1, k2⟩ := lost_some hj
    rcases (hf i b hi).2 with h1 | ⟨t, ht, h1⟩
    · have := (hok.b_lt u j b k1).2.1; omega
    · exact k2 ((hok.inj u j t 1 b k1 h1).1 ▸ ht)
  · obtain ⟨t, ht, h1⟩ := ho b e
    exact hn t (by simp [ht]) 1 h1

theorem mkAppend_run (hr : RelG c B G s a w h g) {T U ty : TypeId} {x y : Operand} {d : Nat} (hd : d < a.tmps.size) {m : MS} (hm : mkAppend c g d T U x y = some m) (hes : ∀ e ∈ m.es, ∃ z, eval s e = some z) :
    ∃ v w' h', (Builtin.append_ #[T, U] ty #[a.eval x, a.eval y]).run c.P w = .ok v w' ∧ MPost c B G s (a.put (some d) v) w w' h h' m := by
  unfold mkAppend at hm
  split at hm
  · rename_i el hT
    have hT' := td_sl hT
    split at hm
    · rename_i hcond
      obtain ⟨rfl, hel⟩ := hcond
      simp only [Option.bind_eq_some_iff] at hm
      obtain ⟨b0, hb0, hm⟩ := hm
      generalize hbe : elemsE (flatT c.P el) b0 = be at hm
      have hr1 := hr.frz be.2
      -- what is put behind
      have elems : ∀ {yy : V} {l2 : List V}, eval s be.1 = some yy → yy = .sl l2 → ∃ Gy, Rd w Gy (.sl l2) (a.eval y) ∧ ∀ (i : Nat) (ck : V) (u : Value), (flat l2)[i]? = some ck → Rd w Gy ck u → Rd w (h.thaw be.2).F ck u := by
        rintro yy l2 hyy rfl
        obtain ⟨Gy, h1, h2⟩ := elems_rd hr (holds_ix0 s c) hb0 (fl := flatT c.P el) (by rw [hbe]; exact hyy)
        rw [hbe] at h2
        exact ⟨Gy, h1, fun i ck u hi hu => (h2 _ rfl i ck u hi hu).mono (thaw_ext fun p hp => hp)⟩
      -- a slot's own list
      have slot : ∀ {t : Nat} {e : E} {v : Value}, t ≠ d → (∃ y, eval s e = some y ∧ OwnV c.P B w (h.thaw be.2) ((h.thaw be.2).bl t 1) el y v) → m = { d := [(d, [], .own el (.app e be.1 (c.P.cellsOf el))), (t, [], .no)], ps := [d, t], rb := [d, t], fz := be.2, es := [.app e be.1 (c.P.cellsOf el)] } →
          ∃ v2 w' h', (Builtin.append_ #[T, T] ty #[v, a.eval y]).run c.P w = .ok v2 w' ∧ MPost c B G s (a.put (some d) v2) w w' h h' m := by
        rintro t e v htd ⟨yv, hyv, hown⟩ rfl
        obtain ⟨z, hz⟩ := hes _ (List.Mem.head _)
        obtain ⟨xx, yy, hxx, hyy, happ⟩ := app_eval hz
        rw [hyv] at hxx; cases hxx
        obtain ⟨_, l2, _, rfl, _⟩ := appV_some happ
        obtain ⟨Gy, e1, e2⟩ := elems hyy rfl
        obtain ⟨v2, w', k1, k2, k3, k4, k5⟩ := append_core (ty := ty) hr1.ok (fun b hb => ⟨t, 1, hb⟩) hown hT' hel e1 e2 happ
        obtain ⟨q1, q2⟩ := append_put (d := d) (ts := [t]) (t0 := 0) (i0 := 0) hr1.ok (fun b hb => ⟨t, by simp, hb⟩) (by simpa using Ne.symm htd) k2 k3 k4
        exact ⟨v2, w', _, k1, q2.after, q1, ent_one (ts := [t]) ⟨v2, put_at hd v2, z, hz, (k5 (h.thaw be.2) rfl).mono (fun _ hb => hb) (by simp [GH.put])⟩⟩
      split at hm
      · rename_i hk
        simp only [Option.some.injEq] at hm
        subst hm
        have hv := opK_nil hr1 (holds_ix0 s c) hk
        rw [hv]
        obtain ⟨z, hz⟩ := hes _ (List.Mem.head _)
        obtain ⟨xx, yy, hxx, hyy, happ⟩ := app_eval hz
        simp only [eval, Option.some.injEq] at hxx
        subst hxx
        obtain ⟨_, l2, _, rfl, _⟩ := appV_some happ
        obtain ⟨Gy, e1, e2⟩ := elems hyy rfl
        obtain ⟨i, zz, hi, hz1, hzs, h0, hby, hcs⟩ := elOk_some hel
        have hown : OwnV c.P B w (h.thaw be.2) none el (.sl []) (.slice none 0 0) := .inl ⟨[], [], rfl, by omega, fun x hx => by simp at hx, World.ownsRow_nil w B el _, rfl, fun i ck hi => by simp [flat] at hi⟩
        obtain ⟨v2, w', k1, k2, k3, k4, k5⟩ := append_core (ty := ty) hr1.ok (fun b hb => by cases hb) hown hT' hel e1 e2 happ
        obtain ⟨q1, q2⟩ := append_put (d := d) (ts := []) (t0 := 0) (i0 := 0) hr1.ok (fun b hb => by cases hb) (by simp) k2 k3 k4
        exact ⟨v2, w', _, k1, q2.after, q1, ent_one (ts := []) ⟨v2, put_at hd v2, z, hz, (k5 (h.thaw be.2) rfl).mono (fun _ hb => hb) (by simp [GH.put])⟩⟩
      · rename_i t ty' e hk
        split at hm
        · rename_i hcond
          obtain ⟨rfl, htd, _⟩ := hcond
          simp only [Option.some.injEq] at hm
          obtain ⟨v, hv, hrel, _⟩ := hr1.look (holds_ix0 s c) (show look _ [] t = _ from hk) rfl
          rw [Act.eval_tmp a t v hv]
          exact slot htd hrel hm.symm
        · cases hm
      · rename_i p hk
        simp only [Option.bind_eq_some_iff] at hm
        obtain ⟨⟨ty', e⟩, ho, hm⟩ := hm
        split at hm
        · rename_i hcond
          obtain ⟨hty, hpd⟩ := hcond
          simp only at hty
          subst hty
          simp only [Option.some.injEq] at hm
          obtain ⟨u, hu, hrel⟩ := hr1.ownOf ho
          have hv := opK_rel hr1 (holds_ix0 s c) hk rfl 0
          have huv := hu.symm.trans hv
          simp only [Option.some.injEq] at huv
          rw [← huv]
          exact slot hpd hrel hm.symm
        · cases hm
      · rename_i p i hk
        simp only [Option.bind_eq_some_iff] at hm
        obtain ⟨cs, hmem, hm⟩ := hm
        split at hm
        · rename_i ty' e hc
          split at hm
          · rename_i hcond
            obtain ⟨rfl, hpd⟩ := hcond
            simp only [Option.map_eq_some_iff] at hm
            obtain ⟨k, hput, rfl⟩ := hm
            obtain ⟨cs', hmem', hle, rfl⟩ := putM_some hput
            rw [hmem] at hmem'; cases hmem'
            obtain ⟨b, vs, tyb, hb, htm, hh, hcs⟩ := hr1.memOf hmem
            have hv := opK_rel hr1 (holds_ix0 s c) hk rfl 0
            obtain ⟨b', hb', hcell⟩ := hv
            rw [hb] at hb'; cases hb'
            rw [cell_of_row w b i vs tyb (0, 0) hh] at hcell
            have hget : ∀ v, vs[i]? = some v → vs.getD i undef = v := fun v hv => by simp [Array.getD_eq_getD_getElem?, hv]
            obtain ⟨yv, hyv, hown⟩ := hcs.2 i _ hc
            rw [hget _ hcell] at hown
            simp only at hown hyv
            obtain ⟨z, hz⟩ := hes _ (List.Mem.head _)
            obtain ⟨xx, yy, hxx, hyy, happ⟩ := app_eval hz
            rw [hyv] at hxx; cases hxx
            obtain ⟨_, l2, _, rfl, _⟩ := appV_some happ
            obtain ⟨Gy, e1, e2⟩ := elems hyy rfl
            obtain ⟨v2, w', k1, k2, k3, k4, k5⟩ := append_core (ty := ty) hr1.ok (fun b hb => ⟨p, i + 1, hb⟩) hown hT' hel e1 e2 happ
            have hF : Same (h.thaw be.2).F w w' := fun x hx => k3 x (hr1.ok.f_lt x hx) fun e => (hr1.ok.b_lt p (i + 1) x e).2.2 hx
            have hbw : w'.heap[b]? = w.heap[b]? := k3 b (hr1.ok.b_lt p 0 b hb).2.1 fun e => by
              have := (hr1.ok.inj p 0 p (i + 1) b hb e).2; omega
            obtain ⟨hsl, hgetc⟩ := setRange_get hle
            have hf : ∀ j x, (if j = 1 then v2.ownBlock else none) = some x → j = 1 ∧ ((w.heap.size ≤ x ∧ x < w'.heap.size) ∨ (h.thaw be.2).bl p (i + 1) = some x) := by
              intro j x hj
              split at hj
              · rename_i h1
                refine ⟨h1, ?_⟩
                rcases k4 with h2 | h2
                · exact .inr (h2 ▸ hj)
                · exact .inl (h2 x hj)
              · cases hj
            have hrr : ∀ u j x, (if u = p ∧ j = i + 1 then none else (h.thaw be.2).bl u j) = some x → (h.thaw be.2).bl u j = some x ∧ ¬ (u = p ∧ j = i + 1) := by
              intro u j x hj
              split at hj
              · cases hj
              · exact ⟨hj, by assumption⟩
            refine ⟨v2, w', (h.thaw be.2).put d (fun j => if j = 1 then v2.ownBlock else none) (fun u j => if u = p ∧ j = i + 1 then none else (h.thaw be.2).bl u j), k1, Step.after ⟨k2, fun x hx hn => k3 x hx fun e => hn p (by simp) (i + 1) e, fun _ hb => hb, fun t ht _ => ?_, fun t ht => ?_, fun _ _ _ _ hm => (by simp at hm), rfl⟩,
              hr1.ok.put k2.size (fun u j x _ hx => (hrr u j x hx).1) (fun j x hx => ?_) (fun j j' x hj hj' => by rw [(hf j x hj).1, (hf j' x hj').1]) (fun j x u j' hu hj hj' => ?_), fun t ht => ?_⟩
            · have h1 : t ≠ d ∧ t ≠ p := by simpa using ht
              funext j
              simp [GH.put, h1.1, h1.2]
            · have h1 : t ≠ d := by simpa using ht
              simp [GH.put, h1]
            · rcases (hf j x hx).2 with h1 | h1
              · exact .inl h1
              · exact .inr ⟨p, i + 1, h1⟩
            · obtain ⟨q1, q2⟩ := hrr u j' x hj'
              rcases (hf j x hj).2 with h1 | h1
              · have := (hr1.ok.b_lt u j' x q1).2.1; omega
              · exact q2 (hr1.ok.inj u j' p (i + 1) x q1 h1)
            · simp only [domOf, List.map_cons, List.map_nil, List.mem_cons, List.not_mem_nil, or_false] at ht
              by_cases htd : t = d
              · subst htd
                simp only [Gam.at, if_true]
                exact ⟨trivial, fun _ => ⟨v2, put_at hd v2, z, hz, (k5 (h.thaw be.2) rfl).mono (fun _ hb => hb) (by simp [GH.put])⟩⟩
              · have htp : t = p := ht.resolve_left htd
                subst htp
                simp only [Gam.at, if_neg (Ne.symm htd), if_true]
                refine ⟨trivial, fun _ => ⟨_, by rw [put_ne htd]; exact htm, b, vs, tyb, by simpa [GH.put, htd] using hb, rfl, by rw [hbw]; exact hh, by rw [hcs.1, hsl], fun j ck hj => ?_⟩⟩
                rcases hgetc j ck hj with ⟨h1, h2, h3⟩ | ⟨h1, h3⟩
                · have hjq : j = i := by simp only [List.length_singleton] at h2; omega
                  subst hjq
                  simp at h3
                  subst h3
                  exact (hcs.2 j _ hc).cell
                · have hji : j ≠ i := by simp only [List.length_singleton] at h1; omega
                  have hbl : ((h.thaw be.2).put d (fun j => if j = 1 then v2.ownBlock else none) (fun u j => if u = t ∧ j = i + 1 then none else (h.thaw be.2).bl u j)).bl t (j + 1) = (h.thaw be.2).bl t (j + 1) := by simp [GH.put, htd, hji]
                  rw [hbl]
                  exact (hcs.2 j ck h3).keep hF (fun _ hb => hb) fun x hx => k3 x (hr1.ok.b_lt t (j + 1) x hx).2.1 fun e => by
                    have := (hr1.ok.inj t (j + 1) t (i + 1) x hx e).2; omega
          · cases hm
        · cases hm
      · cases hm
    · cases hm
  · cases hm

/-- an operation that turns more than its own temporary -/
def MRun (c : Ctx) (B : Nat) (G : Nat → Prop) (s : St) (a : Act) (w : World) (h : GH) (o : Oper) (m : MS) : Prop :=
  ∃ n u w' h', (execOp a.eval o).run c.P w = .ok n w' ∧ (n = .value u ∨ n = .skip ∧ u = undef) ∧ MPost c B G s (a.put o.dst u) w w' h h' m

theorem mk_run (hr : RelG c B G s a w h g) {o : Oper} (hd : ∀ d, o.dst = some d → d < a.tmps.size) {m : MS} (hm : mk c g o = some m) (hes : ∀ e ∈ m.es, ∃ z, eval s e = some z) : MRun c B G s a w h o m := by
  obtain ⟨dst, op, type, pos, after, guard⟩ := o
  unfold mk at hm
  simp only at hm hd
  split at hm
  · rename_i x d
    obtain ⟨h', hp⟩ := mkAssign_run hr (hd _ rfl) hm hes
    exact ⟨_, _, w, h', rfl, .inl rfl, hp⟩
  · rename_i x d
    obtain ⟨h', hp⟩ := mkAssign_run hr (hd _ rfl) hm hes
    exact ⟨_, _, w, h', rfl, .inl rfl, hp⟩
  · rename_i T ad x
    unfold mkStore at hm
    split at hm
    · cases hm
    · rename_i hcond
      simp only [Bool.or_eq_true, Bool.not_eq_true', not_or, Bool.not_eq_false, Bool.or_eq_false_iff, not_and, beq_iff_eq] at hcond
      obtain ⟨hT, hT1⟩ := hcond
      have hT1 : isAggT c.P T = true ∨ c.P.cellsOf T = 1 := by
        cases hag : isAggT c.P T with
        | true => exact .inl rfl
        | false => right; simpa [hag] using hT1
      have fin : ∀ {va : Value}, a.eval ad = va → (∃ w' h', (Instr.storeAt T va (a.eval x)).run c.P w = .ok () w' ∧ MPost c B G s a w w' h h' m) → MRun c B G s a w h { dst := none, op := .store T ad x, type, pos, after, guard } m := by
        rintro va rfl ⟨w', h', h1, h2⟩
        refine ⟨.skip, undef, w', h', ?_, .inr ⟨rfl, rfl⟩, h2⟩
        simp [execOp, h1]
      split at hm
      · rename_i cs hk
        obtain ⟨t, rfl, ⟨v, hv, hev, ⟨b, vs, ty, h1, rfl, _⟩⟩, _⟩ := (opK_case hr (holds_ix0 s c) hk rfl).resolve_left (by rintro (⟨e, h⟩ | h) <;> cases h)
        exact fin hev (mkStoreM_run hr hT hT1 hm hes h1)
      · rename_i p o hk
        obtain ⟨b, h1, h2⟩ := opK_rel hr (holds_ix0 s c) hk rfl 0
        exact fin h2 (mkStoreM_run hr hT hT1 hm hes h1)
      · rename_i p i j o k hk
        obtain ⟨n, q, h1, ⟨ki, h2⟩, h3⟩ := opK_rel hr (holds_ix0 s c) hk rfl 0
        exact fin h3 (mkStoreE_run hr hT hT1 hm hes h1 h2)
      · rename_i p o j n k hk
        obtain ⟨b, q, h1, ⟨ki, h2⟩, h3, h4⟩ := opK_rel hr (holds_ix0 s c) hk rfl 0
        exact fin h4 (mkStoreA_run hr hT hm hes h1 h2 h3)
      · cases hm
  · rename_i T parts d
    obtain ⟨v, h', h1, h2⟩ := mkBuild_run hr (hd _ rfl) hm hes
    exact ⟨.value v, v, w, h', by simp [execOp, h1], .inl rfl, h2⟩
  · rename_i T x d
    obtain ⟨v, w', h', h1, h2⟩ := mkBox_run hr (hd _ rfl) hm
    exact ⟨.value v, v, w', h', by simp [execOp, h1], .inl rfl, h2⟩
  · rename_i T m' k v
    obtain ⟨w', h', h1, h2⟩ := mkMapUpdate_run (a' := a) hr rfl hm hes
    exact ⟨.skip, undef, w', h', by simp [execOp, h1], .inr ⟨rfl, rfl⟩, h2⟩
  · rename_i args argTypes
    split at hm
    · rename_i x T hx hT
      have hargs : args = #[x] := Array.toList_inj.1 (by simpa using hx)
      have htys : argTypes = #[T] := Array.toList_inj.1 (by simpa using hT)
      subst hargs htys
      obtain ⟨v, w', h', h1, h2⟩ := mkClear_run (a' := a) (ty := type) hr rfl hm hes
      exact ⟨.value v, v, w', h', by simp [execOp, resolve, invoke, builtin, h1], .inl rfl, h2⟩
    · cases hm
  · rename_i args argTypes d
    split at hm
    · rename_i x y T U hx hT
      have hargs : args = #[x, y] := Array.toList_inj.1 (by simpa using hx)
      have htys : argTypes = #[T, U] := Array.toList_inj.1 (by simpa using hT)
      subst hargs htys
      obtain ⟨v, w', h', h1, h2⟩ := mkAppend_run (ty := type) hr (hd _ rfl) hm hes
      exact ⟨.value v, v, w', h', by simp [execOp, resolve, invoke, builtin, h1], .inl rfl, h2⟩
    · cases hm
  · cases hm
end
end Vm
