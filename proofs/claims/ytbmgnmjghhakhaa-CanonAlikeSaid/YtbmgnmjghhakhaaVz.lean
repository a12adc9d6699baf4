/-
  A function: its contract on values.
-/
import Derived.Test.YtbmgnmjghhakhaaVy
namespace Vm
open Go
open Go.RowKit (Below)
set_option linter.unusedSimpArgs false
set_option linter.unusedVariables false

def resV1 (s : St) : Nat × RK → Option V
  | (i, .v) => match get s i with | .v x => some x | _ => none
  | (i, .ag n) => match get s i with | .m cs => if n ≤ cs.length then some (.agg (cs.take n)) else none | _ => none
  | (i, .one) => match get s i with | .m (x :: _) => some x | _ => none
def resVs (s : St) : List (Nat × RK) → Option (List V)
  | [] => some []
  | x :: l => (resV1 s x).bind fun y => (resVs s l).map (y :: ·)
/-- what is returned in a state -/
def resV (s : St) (l : List (Nat × RK)) : Option V :=
  match l with
  | [x] => resV1 s x
  | l => (resVs s l).map .tup

theorem pos_get : ∀ {l : List Nat} {p : Nat}, p ∈ l → l[pos l p]? = some p
  | [], p, h => by simp at h
  | q :: l, p, h => by
    simp only [pos]
    by_cases hq : q = p
    · subst hq; simp
    · rw [if_neg hq]
      have : p ∈ l := (List.mem_cons.1 h).resolve_left fun e => hq e.symm
      simpa using pos_get this
theorem pos_append : ∀ {l r : List Nat} {t : Nat}, t ∈ l → pos (l ++ r) t = pos l t
  | [], r, t, h => by simp at h
  | q :: l, r, t, h => by
    simp only [List.cons_append, pos]
    by_cases hq : q = t
    · rw [if_pos hq, if_pos hq]
    · rw [if_neg hq, if_neg hq, pos_append ((List.mem_cons.1 h).resolve_left fun e => hq e.symm)]
theorem pos_inj {l : List Nat} {p q : Nat} (hp : p ∈ l) (hq : q ∈ l) (h : pos l p = pos l q) : p = q := by
  have h1 := pos_get hp
  rw [h, pos_get hq] at h1
  cases h1; rfl

section
variable {c : Ctx} {B : Nat} {G : Nat → Prop} {s t u : St} {a a' : Act} {w w' w0 : World} {h : GH} {n0 : Nat} {S R : SS}

def rkOf (P : Program) (ix : Nat → Nat) : ResultVar → Nat × RK
  | .tmp t => (ix t, .v)
  | .cell a t => (ix a, if isAggT P t then .ag (P.cellsOf t) else .one)
def resGet (tmps : Array Value) : ResultVar → Sem Value
  | .tmp t => pure (tmps.getD t undef)
  | .cell p t => do loadVar t (← asAddr (tmps.getD p undef))
theorem resOf_eq (P : Program) (ix : Nat → Nat) (f : Func) : resOf P ix f = f.results.toList.map (rkOf P ix) := by
  unfold resOf
  refine List.map_congr_left fun r _ => ?_
  cases r <;> rfl
/-- a result that is told as a value -/
theorem res_one (hrel : RelG c B G s a w h (entry c S)) (hnil : NilOk c s S) {D : Nat → Prop} (hF : ∀ b, h.F b → D b) {r : ResultVar} (hbl0 : ∀ i b, h.bl (resSlot r) (i + 1) = some b → D b) (hok : okRes c.P S r = true) {x : V} (hx : resV1 s (rkOf c.P c.ix r) = some x) :
    ∃ v, (resGet a.tmps r).run c.P w = .ok v w ∧ Rd w D x v := by
  cases r with
  | tmp tt =>
    simp only [rkOf, resGet] at hx ⊢
    simp only [okRes] at hok
    cases hS : S.at tt with
    | none => rw [hS] at hok; cases hok
    | some k =>
      obtain ⟨v, hv, hk⟩ := hrel.at_ tt (by rw [entry_at, hS]; exact holds_ix0 s c) (by rw [entry_at, hS]; cases k <;> rfl)
      rw [entry_at, hS] at hk
      have hvd : a.tmps.getD tt undef = v := by simp [Array.getD_eq_getD_getElem?, hv]
      refine ⟨v, by simp [hvd], ?_⟩
      simp only [resV1] at hx
      have hget : get s (c.ix tt) = .v x := by
        cases hg : get s (c.ix tt) <;> rw [hg] at hx <;> simp at hx
        rw [hx]
      cases k with
      | fz =>
        obtain ⟨y, h1, h2⟩ := hk
        simp only [eval, hget, Option.some.injEq] at h1
        subst h1
        exact h2.mono fun b hb => hF b (GH.ext_nil hb)
      | own ty =>
        obtain ⟨y, h1, h2⟩ := hk
        simp only [eval, hget, Option.some.injEq] at h1
        subst h1
        exact h2.rd hF fun b hb => hbl0 0 b hb
      | nil =>
        have hv0 : v = .slice none 0 0 := hk
        subst hv0
        have := hnil tt hS
        rw [hget] at this
        simp only [SV.v.injEq] at this
        subst this
        exact .nil _ _ (Nat.zero_le _)
      | mem l => rw [hS] at hok; cases hok
      | clo f l => rw [hS] at hok; cases hok
  | cell p ty =>
    simp only [rkOf, resGet] at hx ⊢
    simp only [okRes] at hok
    cases hS : S.at p with
    | none => rw [hS] at hok; cases hok
    | some k =>
      cases k with
      | mem l =>
        rw [hS] at hok
        simp only [Bool.and_eq_true, List.all_eq_true, bne_iff_ne, ne_eq] at hok
        obtain ⟨⟨hT, hdead⟩, hlen⟩ := hok
        obtain ⟨v, hv, hk⟩ := hrel.at_ p (by rw [entry_at, hS]; exact holds_ix0 s c) (by rw [entry_at, hS]; rfl)
        rw [entry_at, hS] at hk
        obtain ⟨b, vs, T, h1, rfl, h3, h4⟩ := hk
        have hvd : a.tmps.getD p undef = .pointer (some ⟨b, 0, none⟩) := by simp [Array.getD_eq_getD_getElem?, hv]
        rw [hvd]
        have hsz : vs.size = l.length := by have := h4.1; simpa using this
        -- each cell
        have hcell : ∀ i, i < l.length → ∃ y, eval s (.m (c.ix p) i) = some y ∧ y.one = true ∧ Rd w D y (vs.getD i undef) := by
          intro i hi
          have := h4.2 i (l[i], .m (c.ix p) i) (by simp [hi])
          exact this.rd (hdead l[i] (List.getElem_mem hi)) hF fun ty _ b hb => hbl0 i b hb
        obtain ⟨d, info, hd, hinf, hs, hagg⟩ := okT_of hT
        cases hag : isAggT c.P ty with
        | true =>
          rw [hag] at hlen hx
          simp only [if_true, beq_iff_eq] at hlen
          simp only [if_true, resV1] at hx
          split at hx
          · rename_i cs hget
            split at hx
            · rename_i hle
              simp only [Option.some.injEq] at hx
              subst hx
              have hl := run_loadCells_list (P := c.P) w ⟨b, 0, none⟩ vs.toList (fun j u hj => by
                rw [Addr.add_lit, Nat.zero_add, cell_of_row w b j vs T (0, 0) h3]; simpa using hj)
              simp only [Array.length_toList] at hl
              refine ⟨.agg vs, ?_, ?_⟩
              · simp only [asAddr, Sem.run_bind, Sem.run_pure, Result.andThen_ok]
                unfold loadVar
                simp [hagg, hag, run_szOf hinf, ← hs, ← hlen, ← hsz, hl]
              · have hone : ∀ (i : Nat) (y : V), (cs.take (c.P.cellsOf ty))[i]? = some y → y.one = true ∧ Rd w D y (vs.getD i undef) := by
                  intro i y hi
                  rw [List.getElem?_take] at hi
                  split at hi
                  · rename_i hlt
                    obtain ⟨z, hz, hz1, hz2⟩ := hcell i (by rw [hlen]; exact hlt)
                    simp only [eval, hget, hi, Option.bind_some] at hz
                    obtain ⟨rfl, _⟩ := oneV_some hz
                    exact ⟨hz1, hz2⟩
                  · cases hi
                exact .agg _ vs (by rw [hsz, hlen]; simp; omega) (fun y hy => by
                  obtain ⟨i, hi⟩ := List.getElem?_of_mem hy
                  exact (hone i y hi).1) fun i y hi => (hone i y hi).2
            · cases hx
          · cases hx
        | false =>
          rw [hag] at hlen hx
          simp only [Bool.false_eq_true, if_false, decide_eq_true_eq] at hlen
          simp only [Bool.false_eq_true, if_false, resV1] at hx
          split at hx
          · rename_i y0 r hget
            simp only [Option.some.injEq] at hx
            subst hx
            obtain ⟨z, hz, hz1, hz2⟩ := hcell 0 hlen
            simp only [eval, hget, List.getElem?_cons_zero, Option.bind_some] at hz
            obtain ⟨rfl, _⟩ := oneV_some hz
            refine ⟨vs.getD 0 undef, ?_, hz2⟩
            have hc : w.cell? ⟨b, 0, none⟩ = some (vs.getD 0 undef) := by
              rw [cell_of_row w b 0 vs T (0, 0) h3]
              have : 0 < vs.size := by omega
              simp [Array.getD_eq_getD_getElem?, this]
            simp only [asAddr, Sem.run_bind, Sem.run_pure, Result.andThen_ok]
            unfold loadVar
            simp [hagg, hag, hc]
          · cases hx
      | _ => rw [hS] at hok; cases hok

theorem res_list (hrel : RelG c B G s a w h (entry c S)) (hnil : NilOk c s S) {D : Nat → Prop} (hF : ∀ b, h.F b → D b) : ∀ {l : List ResultVar}, (∀ r ∈ l, okRes c.P S r = true ∧ ∀ i b, h.bl (resSlot r) (i + 1) = some b → D b) → ∀ {xs : List V}, resVs s (l.map (rkOf c.P c.ix)) = some xs →
    ∃ vs : List Value, (l.mapM (resGet a.tmps)).run c.P w = .ok vs w ∧ vs.length = xs.length ∧
      ∀ (i : Nat) (x : V), xs[i]? = some x → ∃ v, vs[i]? = some v ∧ Rd w D x v
  | [], _, xs, hx => by
    simp only [List.map_nil, resVs, Option.some.injEq] at hx
    subst hx
    exact ⟨[], by simp, rfl, fun i x hi => by simp at hi⟩
  | r :: l, hok, xs, hx => by
    simp only [List.map_cons, resVs, Option.bind_eq_some_iff, Option.map_eq_some_iff] at hx
    obtain ⟨y, hy, ys, hys, rfl⟩ := hx
    obtain ⟨v, hv, hvr⟩ := res_one hrel hnil hF (hok r (by simp)).2 (hok r (by simp)).1 hy
    obtain ⟨vs, hvs, hl, hat⟩ := res_list hrel hnil hF (fun q hq => hok q (by simp [hq])) hys
    refine ⟨v :: vs, ?_, by simp [hl], fun i x hi => ?_⟩
    · simp only [List.mapM_cons, Sem.run_bind]
      rw [hv]
      simp only [Result.andThen_ok, Sem.run_bind]
      rw [hvs]
      simp
    · cases i with
      | zero => simp at hi; subst hi; exact ⟨v, rfl, hvr⟩
      | succ i => simpa using hat i x (by simpa using hi)

theorem results_wp (hrel : RelG c B G s a w h (entry c S)) (hnil : NilOk c s S) {D : Nat → Prop} (hF : ∀ b, h.F b → D b) {f : Func} (hok' : ∀ r ∈ f.results.toList, okRes c.P S r = true ∧ ∀ i b, h.bl (resSlot r) (i + 1) = some b → D b) {x : V} (hx : resV s (resOf c.P c.ix f) = some x) :
    ∃ v, (results f a.tmps).run c.P w = .ok v w ∧ Rd w D x v := by
  have hrun : ∀ vs : List Value, (f.results.toList.mapM (resGet a.tmps)).run c.P w = .ok vs w →
      (results f a.tmps).run c.P w = .ok (if h : vs.toArray.size = 1 then vs.toArray[0] else .tuple vs.toArray) w := by
    intro vs hvs
    have hf : results f a.tmps = (do let vs ← f.results.mapM (resGet a.tmps); pure (if h : vs.size = 1 then vs[0] else Value.tuple vs)) := by
      unfold results
      refine congrArg (fun g : ResultVar → Sem Value => (do let vs ← f.results.mapM g; pure (if h : vs.size = 1 then vs[0] else Value.tuple vs))) ?_
      funext r; cases r <;> rfl
    rw [hf, Array.mapM_eq_mapM_toList]
    simp only [Sem.run_bind, map_eq_pure_bind]
    rw [hvs]
    simp
  rw [resOf_eq] at hx
  generalize hl : f.results.toList = l at hx hok' hrun
  match l, hx with
  | [r], hx =>
    simp only [List.map_cons, List.map_nil, resV] at hx
    obtain ⟨v, hv, hvr⟩ := res_one hrel hnil hF (hok' r (by simp)).2 (hok' r (by simp)).1 hx
    refine ⟨v, ?_, hvr⟩
    have := hrun [v] (by simp only [List.mapM_cons, List.mapM_nil, Sem.run_bind]; rw [hv]; simp)
    simpa using this
  | [], hx =>
    simp only [List.map_nil, resV, resVs, Option.map_some, Option.some.injEq] at hx
    subst hx
    have := hrun [] (by simp)
    exact ⟨_, by simpa using this, .tup _ _ rfl fun i c hi => by simp at hi⟩
  | r :: r' :: l, hx =>
    simp only [List.map_cons, resV] at hx
    simp only [Option.map_eq_some_iff] at hx
    obtain ⟨xs, hxs, rfl⟩ := hx
    obtain ⟨vs, hvs, hlen, hat⟩ := res_list hrel hnil hF hok' (xs := xs) (by simpa only [List.map_cons] using hxs)
    have hxl : xs.length = l.length + 2 := by
      simp only [resVs, Option.bind_eq_some_iff, Option.map_eq_some_iff] at hxs
      obtain ⟨y, _, ys, ⟨y', _, ys', h3, rfl⟩, rfl⟩ := hxs
      have : ∀ {l : List (Nat × RK)} {xs : List V}, resVs s l = some xs → xs.length = l.length := by
        intro l
        induction l with
        | nil => intro xs h; simp only [resVs, Option.some.injEq] at h; subst h; rfl
        | cons a l ih =>
          intro xs h
          simp only [resVs, Option.bind_eq_some_iff, Option.map_eq_some_iff] at h
          obtain ⟨_, _, ys, h2, rfl⟩ := h
          simp [ih h2]
      have := this h3
      simp at this
      simp [this]
    have hr2 := hrun vs hvs
    have hne : ¬ vs.toArray.size = 1 := by simp; omega
    rw [dif_neg hne] at hr2
    refine ⟨_, hr2, .tup _ _ (by simp [hlen]) fun i x hi => ?_⟩
    obtain ⟨v, hv, hvr⟩ := hat i x hi
    have : vs.toArray.getD i undef = v := by simp [Array.getD_eq_getD_getElem?, hv]
    rw [this]; exact hvr
end

/-! ### A function -/
/-- the state in which a function begins -/
def argS (k : OT) (x : V) : SV :=
  match k, x with
  | .mem _, .agg cs => .m cs
  | _, x => .v x
def argsS : List OT → List V → St
  | k :: ks, x :: xs => argS k x :: argsS ks xs
  | _, _ => []
theorem argsS_get : ∀ {ks : List OT} {xs : List V} {i : Nat} {k : OT} {x : V}, ks[i]? = some k → xs[i]? = some x → get (argsS ks xs) i = argS k x
  | [], _, _, _, _, hk, _ => by simp at hk
  | _ :: _, [], _, _, _, _, hx => by simp at hx
  | k :: ks, x :: xs, 0, k', x', hk, hx => by simp at hk hx; subst hk hx; rfl
  | k :: ks, x :: xs, i + 1, k', x', hk, hx => by
    have := argsS_get (ks := ks) (xs := xs) (i := i) (by simpa using hk) (by simpa using hx)
    simpa [argsS, get] using this
/-- what is handed back -/
def finV (s : St) (i : Nat) (k : OT) : Option V :=
  match k with
  | .fz => some (.bool false)
  | .own _ => match get s i with
    | .v x => some x
    | _ => none
  | .mem l => match get s i with
    | .m cs => if cs.length = l.length then some (.agg cs) else none
    | _ => none
  | _ => none
def finAll (s : St) : Nat → List OT → Option (List V)
  | _, [] => some []
  | i, k :: ks => (finV s i k).bind fun x => (finAll s (i + 1) ks).map (x :: ·)
theorem finAll_get : ∀ {ks : List OT} {i : Nat} {s : St} {ys : List V}, finAll s i ks = some ys → ys.length = ks.length ∧ ∀ (j : Nat) (k : OT) (y : V), ks[j]? = some k → ys[j]? = some y → finV s (i + j) k = some y
  | [], i, s, ys, hf => by
    simp only [finAll, Option.some.injEq] at hf
    subst hf
    exact ⟨rfl, fun j k y hk => by simp at hk⟩
  | k :: ks, i, s, ys, hf => by
    simp only [finAll, Option.bind_eq_some_iff, Option.map_eq_some_iff] at hf
    obtain ⟨y, hy, ys', hys, rfl⟩ := hf
    obtain ⟨h1, h2⟩ := finAll_get hys
    refine ⟨by simp [h1], fun j k' y' hk hy' => ?_⟩
    cases j with
    | zero => simp at hk hy'; subst hk hy'; exact hy
    | succ j =>
      have := h2 j k' y' (by simpa using hk) (by simpa using hy')
      rw [show i + (j + 1) = i + 1 + j by omega]
      exact this
theorem zipSS_at (ks : List OT) (t : Nat) : SS.at (ks.zipIdx.map fun x => (x.2, x.1)) t = ks[t]? := by
  have : ∀ (ks : List OT) (n t : Nat), SS.at ((ks.zipIdx n).map fun x => (x.2, x.1)) t = if n ≤ t then ks[t - n]? else none := by
    intro ks
    induction ks with
    | nil => intro n t; simp [SS.at]
    | cons k ks ih =>
      intro n t
      simp only [List.zipIdx_cons, List.map_cons, SS.at, ih]
      by_cases h1 : n = t
      · subst h1; simp
      · rw [if_neg h1]
        by_cases h2 : n ≤ t
        · have h3 : n + 1 ≤ t := by omega
          rw [if_pos h2, if_pos h3, show t - n = (t - (n + 1)) + 1 by omega]
          simp
        · have h3 : ¬ n + 1 ≤ t := by omega
          rw [if_neg h2, if_neg h3]
  have := this ks 0 t
  simpa using this
def nz : Option OT → Option OT
  | some .fz => none
  | x => x
theorem paramSS_at (ks : List OT) (t : Nat) : (paramSS ks).at t = nz ks[t]? := by
  have : ∀ (ks : List OT) (n t : Nat), SS.at ((ks.zipIdx n).filterMap fun x => match x.1 with | .fz => none | k => some (x.2, k)) t = if n ≤ t then nz ks[t - n]? else none := by
    intro ks
    induction ks with
    | nil => intro n t; simp [SS.at, nz]
    | cons k ks ih =>
      intro n t
      have hrest : n ≠ t → (if n + 1 ≤ t then nz ks[t - (n + 1)]? else none) = if n ≤ t then nz (k :: ks)[t - n]? else none := by
        intro h1
        by_cases h2 : n ≤ t
        · have h3 : n + 1 ≤ t := by omega
          rw [if_pos h2, if_pos h3, show t - n = (t - (n + 1)) + 1 by omega]
          simp
        · have h3 : ¬ n + 1 ≤ t := by omega
          rw [if_neg h2, if_neg h3]
      simp only [List.zipIdx_cons, List.filterMap_cons]
      by_cases h1 : n = t
      · subst h1
        have h3 : ¬ n + 1 ≤ n := by omega
        cases k <;> simp [SS.at, ih, nz, h3]
      · rw [← hrest h1]
        cases k <;> simp only [SS.at, ih, if_neg h1]
  have h := this ks 0 t
  simp only [Nat.zero_le, if_true, Nat.sub_zero] at h
  exact h

/-- a function that the compiler takes: what it comes to -/
theorem fn_run {P : Program} {f : FuncId} {fn : Func} {cf : Fn} {fresh : FuncId → Bool} {sig : FuncId → Option (List OT)} {ks : List OT} {fin : SS} (hf : P.funcs[f]? = some fn) (hm : P.follows .mixedOrders = true) (hc : compFn P fresh sig ks fin fn = some cf)
    {xs : List V} {Rt : St → Prop} (hw : wpS P cf.body (argsS ks xs) Rt (fun _ _ => False) Rt) {B : Nat} {w : World} {h : GH} {vs : Array Value} (hok : Ok B h.F w h) (hA : RelA P B w h ks xs vs) {Q : Ending → World → Prop}
    (hQ : ∀ (c : Ctx) (s : St) (S : SS) (a : Act) (w' : World) (h' : GH), c.P = P → (∀ t, t < ks.length → c.ix t = t) → (∀ t ∈ cf.keep, c.ix t = pos cf.keep t) → cf.res = resOf P c.ix fn → Rt s → RelG c B h.F s a w' h' (entry c S) → NilOk c s S → h'.K = h.K → Frm h.K (fun t => t ∈ fixOf ks) vs B w a w' → okFin P fn fin S = true →
      ∃ v, (results fn a.tmps).run P w' = .ok v w' ∧ Q (.returned v) w') : Calls P f vs w Q := by
  unfold compFn at hc
  simp only [Option.bind_eq_some_iff] at hc
  obtain ⟨code, hb, ⟨st, fl⟩, hcomp, hc⟩ := hc
  split at hc
  · rename_i hcond
    simp only [okEnd, Bool.and_eq_true] at hcond
    obtain ⟨⟨⟨hn1, hr1⟩, hx1⟩, hix⟩ := hcond
    simp only [Option.some.injEq] at hc
    subst hc
    simp only at hw
    generalize hkeep : dedup [] ((List.range ks.length) ++ codeSlots (fun ops => ownSlots ops ++ readsOf ops ops.toList []) code) = keep at *
    generalize hmore : dedup [] ((codeSlots letSlots code).filter fun t => !keep.contains t) = more at *
    have hixt : ∀ t, t < ks.length → pos (keep ++ more) t = t := fun t ht => by
      have := List.all_eq_true.1 hix t (List.mem_range.2 ht)
      simpa using this
    refine calls_of_wp hf hb ?_
    have hinj : ∀ p ∈ keep, ∀ q ∈ keep, pos (keep ++ more) p = pos (keep ++ more) q → p = q := fun p hp q hq he => pos_inj (List.mem_append_left _ hp) (List.mem_append_left _ hq) he
    obtain ⟨hxl, hvl, hAi⟩ := hA
    have hfl : ∀ t, t ∈ fixOf ks → t < vs.size := by
      intro t ht
      simp only [fixOf, paramSS, List.mem_map, List.mem_filterMap] at ht
      obtain ⟨y, ⟨x, hx, hy⟩, rfl⟩ := ht
      have hlt := (List.mem_zipIdx hx).2.1
      have : y.2 = y.2 := rfl
      have hy1 : y.1 = x.2 := by
        split at hy
        · cases hy
        · simp only [Option.some.injEq] at hy; rw [← hy]
      rw [hy1, hvl]; omega
    have hrel : RelS h.K (fixOf ks) vs { P, ix := pos (keep ++ more), own := fun _ => false, fresh, sig, tr := trOf fn, n := fn.ntmps } B h.F w (vs ++ Array.replicate (fn.ntmps - vs.size) undef).size (argsS ks xs)
        { tmps := vs ++ Array.replicate (fn.ntmps - vs.size) undef, defers := [] } w (ks.zipIdx.map fun x => (x.2, x.1)) := by
      refine ⟨⟨h, ⟨hok, fun t _ hk => ?_, fun t hh => ?_⟩, rfl⟩, fun p hp => ?_, ⟨.refl _ _, .refl _ _, fun t ht => ?_⟩, rfl, rfl⟩
      · rw [entry_at] at hk ⊢
        rw [zipSS_at] at hk ⊢
        by_cases ht : t < ks.length
        · rw [List.getElem?_eq_getElem ht] at hk ⊢
          have hlt : t < xs.length := by omega
          obtain ⟨tk, harg, hrel⟩ := hAi t ks[t] xs[t] (List.getElem?_eq_getElem ht) (List.getElem?_eq_getElem hlt)
          refine ⟨vs.getD t undef, ?_, ?_⟩
          · simp only
            rw [Array.getElem?_append_left (by omega)]
            simp [Array.getD_eq_getD_getElem?, show t < vs.size by omega]
          · have hg : get (argsS ks xs) (pos (keep ++ more) t) = argS ks[t] xs[t] := by rw [hixt t ht]; exact argsS_get (List.getElem?_eq_getElem ht) (List.getElem?_eq_getElem hlt)
            generalize ks[t] = k at harg hg
            generalize xs[t] = x at harg hg
            cases k with
            | fz =>
              simp only [argK, Option.some.injEq] at harg
              subst harg
              obtain ⟨y, h1, h2⟩ := hrel
              simp only [eval, Option.some.injEq] at h1
              subst h1
              exact ⟨x, by simp only [eval, hg, argS], h2⟩
            | own ty =>
              simp only [argK, Option.some.injEq] at harg
              subst harg
              obtain ⟨y, h1, h2⟩ := hrel
              simp only [eval, Option.some.injEq] at h1
              subst h1
              exact ⟨x, by simp only [eval, hg, argS], h2⟩
            | mem l =>
              cases x <;> simp only [argK] at harg <;> first | (cases harg; done) | skip
              rename_i cs
              split at harg
              · rename_i hlen
                simp only [Option.some.injEq] at harg
                subst harg
                obtain ⟨b, us, T, e1, e2, e3, e4, e5⟩ := hrel
                refine ⟨b, us, T, e1, e2, e3, by rw [e4]; simp; omega, fun i ck hi => ?_⟩
                simp only [List.getElem?_map, List.getElem?_zipIdx, Option.map_eq_some_iff, Nat.zero_add] at hi
                obtain ⟨y, ⟨k2, hk2, rfl⟩, rfl⟩ := hi
                have hlt : i < cs.length := by rw [hlen]; exact (List.getElem?_eq_some_iff.1 hk2).1
                have hc := e5 i (k2, .c cs[i]) (by rw [List.getElem?_map, Option.map_eq_some_iff]; exact ⟨(k2, cs[i]), by rw [List.getElem?_zip_eq_some]; exact ⟨hk2, List.getElem?_eq_getElem hlt⟩, rfl⟩)
                refine hc.eval fun y h1 hy => ?_
                simp only [eval, Option.some.injEq] at hy
                subst hy
                simp only [eval, hg, argS, List.getElem?_eq_getElem hlt, Option.bind_some, oneV, h1, if_true]
              · cases harg
            | nil => simp [argK] at harg
            | clo f l => simp [argK] at harg
        · rw [List.getElem?_eq_none (by omega)] at hk; cases hk
      · exact absurd (by rw [entry_at]; rw [zipSS_at]; split <;> exact holds_nil _) hh
      · rw [zipSS_at] at hp
        have hlt : p < xs.length := by have := (List.getElem?_eq_some_iff.1 hp).1; omega
        obtain ⟨tk, harg, _⟩ := hAi p .nil xs[p] hp (List.getElem?_eq_getElem hlt)
        simp [argK] at harg
      · simp only
        rw [Array.getElem?_append_left (hfl t ht)]
    refine wp_mono (comp_sound (c := { P, ix := pos (keep ++ more), own := fun _ => false, fresh, sig, tr := trOf fn, n := fn.ntmps }) (fc := { P, ix := pos (keep ++ more), fresh, sig, tr := trOf fn, fix := fixOf ks, n := fn.ntmps, keep }) hm hinj rfl rfl rfl (by simp; omega) code hcomp hrel hw) fun e a' w' hp => ?_
    have fin' : ∀ {s : St} {S : SS}, okFin P fn fin S = true → Rt s → RelS h.K (fixOf ks) vs { P, ix := pos (keep ++ more), own := fun _ => false, fresh, sig, tr := trOf fn, n := fn.ntmps } B h.F w (vs ++ Array.replicate (fn.ntmps - vs.size) undef).size s a' w' S →
        a'.defers = [] ∧ ∃ v, (results fn a'.tmps).run P w' = .ok v w' ∧ Q (.returned v) w' := by
      intro s S h1 h2 h3
      obtain ⟨⟨h', h3, h4⟩, h5, h6, h7, h8⟩ := h3
      exact ⟨h8, hQ _ s S a' w' h' rfl hixt (fun t ht => pos_append ht) rfl h2 h3 h5 h4 h6 h1⟩
    cases e with
    | normal =>
      obtain ⟨s, S, h1, h2, h3⟩ := hp
      rw [h1] at hn1
      exact fin' hn1 h2 h3
    | ret =>
      obtain ⟨s, S, h1, h2, h3⟩ := hp
      exact fin' (List.all_eq_true.1 hr1 S h1) h2 h3
    | exit id => obtain ⟨s, S, h1, h2, _⟩ := hp; exact h2.elim
    | _ => exact hp.elim
  · cases hc

/-- a function that the compiler takes, and whose program comes to R -/
theorem vcm_of_wp {P : Program} {f : FuncId} {fn : Func} {cf : Fn} {fresh : FuncId → Bool} {sig : FuncId → Option (List OT)} {ks : List OT} (hf : P.funcs[f]? = some fn) (hm : P.follows .mixedOrders = true) (hname : callable P f = true) (hc : compFn P fresh sig ks (paramSS ks) fn = some cf) (hap : resApart fn (paramSS ks) = true)
    {xs : List V} {R : V} (hw : wpS P cf.body (argsS ks xs) (fun s => ∃ r, resV s cf.res = some r ∧ ∃ ys, finAll s 0 ks = some ys ∧ R = packV r (outsV ks ys)) (fun _ _ => False) (fun s => ∃ r, resV s cf.res = some r ∧ ∃ ys, finAll s 0 ks = some ys ∧ R = packV r (outsV ks ys))) : VCM P f ks xs R := by
  refine ⟨hname, fun B w h vs hok hA => fn_run hf hm hc hw hok hA fun c s S a w' h' hP hix _ hres ⟨r, hr, ys, hys, hR⟩ hrel hnil hK hfrm hfin => ?_⟩
  subst hP
  simp only [okFin, Bool.and_eq_true, List.all_eq_true] at hfin
  obtain ⟨hfin1, hle⟩ := hfin
  obtain ⟨hrel2, hnil2⟩ := RelS_weak hrel hnil hle
  rw [hres] at hr
  obtain ⟨v, hv, hvr⟩ := results_wp (D := (h'.drop (keepP S (paramSS ks))).F) hrel hnil (fun b hb => .inl hb) (fun q hq => by
    have h1 := hfin1 q hq
    have h2 := List.all_eq_true.1 hap q hq
    refine ⟨h1, fun i b hb => .inr ⟨resSlot q, i + 1, ?_, by omega, hb⟩⟩
    unfold keepP
    rw [Option.isNone_iff_eq_none.1 h2]
    cases S.at (resSlot q) with
    | none => rfl
    | some k => cases k <;> rfl) hr
  obtain ⟨hyl, hyat⟩ := finAll_get hys
  refine ⟨v, hv, v, r, ys, h'.drop (keepP S (paramSS ks)), rfl, hfrm.below, hfrm.same, hrel2.ok, hK, hvr, ⟨hyl, fun i k y hk hkz hy => ?_⟩, hR⟩
  have hlt : i < ks.length := (List.getElem?_eq_some_iff.1 hk).1
  have hpk : (paramSS ks).at i = some k := by
    rw [paramSS_at, hk]
    cases k <;> first | rfl | exact absurd rfl hkz
  obtain ⟨u, hu, hru⟩ := hrel2.at_ i (by rw [entry_at, hpk]; exact holds_ix0 s c) (by rw [entry_at, hpk]; cases k <;> rfl)
  rw [entry_at, hpk] at hru
  have huv : vs.getD i undef = u := by
    have h1 := hfrm.fix i (List.mem_map.2 ⟨(i, k), atSS_mem hpk, rfl⟩)
    rw [hu] at h1
    simp [Array.getD_eq_getD_getElem?, ← h1]
  rw [huv]
  have hf := hyat i k y hk hy
  rw [Nat.zero_add] at hf
  cases k with
  | fz => exact absurd rfl hkz
  | own ty =>
    simp only [finV] at hf
    split at hf
    · rename_i x hg
      simp only [Option.some.injEq] at hf
      subst hf
      obtain ⟨z, h1, h2⟩ := hru
      simp only [eval, hix i hlt, hg, Option.some.injEq] at h1
      subst h1
      exact ⟨_, rfl, x, rfl, h2⟩
    · cases hf
  | mem l =>
    simp only [finV] at hf
    split at hf
    · rename_i cs hg
      split at hf
      · rename_i hlen
        simp only [Option.some.injEq] at hf
        subst hf
        obtain ⟨b, us, T, e1, e2, e3, e4, e5⟩ := hru
        refine ⟨.mem ((l.zip cs).map fun y => (y.1, .c y.2)), by simp only [argK, hlen, if_true], b, us, T, e1, e2, e3, by rw [e4]; simp; omega, fun j ck hj => ?_⟩
        simp only [List.getElem?_map, Option.map_eq_some_iff] at hj
        obtain ⟨⟨kk, x⟩, hj, rfl⟩ := hj
        rw [List.getElem?_zip_eq_some] at hj
        obtain ⟨hj1, hj2⟩ := hj
        simp only at hj1 hj2
        have hc := e5 j (kk, .m (c.ix i) j) (by simp [hj1])
        have hev : ∀ {z : V}, eval s (.m (c.ix i) j) = some z → z = x := fun hz => by
          simp only [eval, hix i hlt, hg, hj2, Option.bind_some] at hz
          obtain ⟨rfl, _⟩ := oneV_some hz
          rfl
        show RelC c.P B [] w' _ _ kk (.c x) (us.getD j undef)
        cases kk with
        | fz => obtain ⟨z, q1, q2, q3⟩ := hc; have := hev q1; subst this; exact ⟨_, rfl, q2, q3⟩
        | own ty => obtain ⟨z, q1, q2⟩ := hc; have := hev q1; subst this; exact ⟨_, rfl, q2⟩
        | nil => obtain ⟨q1, q2⟩ := hc; have := hev q2; subst this; exact ⟨q1, rfl⟩
        | dead => exact hc
      · cases hf
    · cases hf
  | nil => simp [finV] at hf
  | clo f l => simp [finV] at hf

theorem argsS_fz : ∀ (xs : List V), argsS (xs.map fun _ => OT.fz) xs = xs.map .v
  | [] => rfl
  | x :: xs => by simp only [List.map_cons, argsS, argS, argsS_fz xs]
/-- the same, where nothing that is handed in is written -/
theorem vc_of_wp {P : Program} {f : FuncId} {fn : Func} {cf : Fn} {fresh : FuncId → Bool} {sig : FuncId → Option (List OT)} {ks : List OT} {fin : SS} (hf : P.funcs[f]? = some fn) (hm : P.follows .mixedOrders = true) (hname : callable P f = true) (hc : compFn P fresh sig ks fin fn = some cf)
    {args : List V} {r : V} (hks : ks = args.map fun _ => .fz)
    (hw : wpS P cf.body (args.map .v) (fun s => resV s cf.res = some r) (fun _ _ => False) (fun s => resV s cf.res = some r)) : VC P f false args r := by
  refine ⟨hname, fun w G vs hG hvs hrd => ?_⟩
  subst hks
  have hok : Ok w.heap.size G w { F := G, bl := fun _ _ => none, K := fun _ => False } := ⟨Nat.le_refl _, hG, fun b hb => .inl hb, fun b hb => hb, fun t i b hb => (by cases hb), fun t i u j b hb => (by cases hb), fun b hb => hb.elim, fun t i b hb => (by cases hb), fun b hb => .inl hb⟩
  refine fn_run (h := { F := G, bl := fun _ _ => none, K := fun _ => False }) (B := w.heap.size) (Rt := fun s => resV s cf.res = some r) hf hm hc (by rw [argsS_fz]; exact hw) hok ⟨by simp, by simpa using hvs, fun i k x hk hx => ?_⟩ fun c s S a w' h' hP hix _ hres hr hrel hnil hK hfrm hfin => ?_
  · simp only [List.getElem?_map, Option.map_eq_some_iff] at hk
    obtain ⟨y, _, rfl⟩ := hk
    exact ⟨_, rfl, x, rfl, (hrd i x hx).mono fun b hb => .inl hb⟩
  · subst hP
    simp only [okFin, Bool.and_eq_true, List.all_eq_true] at hfin
    rw [hres] at hr
    obtain ⟨v, hv, hvr⟩ := results_wp (D := fun b => G b ∨ (w.heap.size ≤ b ∧ b < w'.heap.size)) hrel hnil (fun b hb => by
      rcases hrel.ok.f_or b hb with h1 | h1
      · exact .inl h1
      · exact .inr ⟨h1, hrel.ok.f_lt b hb⟩) (fun q hq => ⟨hfin.1 q hq, fun i b hb => .inr ⟨(hrel.ok.b_lt _ _ b hb).1, (hrel.ok.b_lt _ _ b hb).2.1⟩⟩) hr
    refine ⟨v, hv, v, rfl, hfrm.below, hvr.mono fun b hb => ?_⟩
    rcases hb with hb | hb
    · exact .inl ⟨rfl, hb⟩
    · exact .inr hb
/-- a list of the call's own, whose elements hold no lists: it is new -/
theorem OwnV.rd_flat {P : Program} {B : Nat} {w : World} {h : GH} {o : Option Nat} {ty : TypeId} {l : List V} {v : Value} (hv : OwnV P B w h o ty (.sl l) v) (hfl : ∀ c ∈ flat l, c.flatc = true) {G' : Nat → Prop} (ho : ∀ b, o = some b → G' b) : Rd w G' (.sl l) v := by
  rcases hv with ⟨l', xs, hl, h0, hfit, hown, hb, hrd⟩ | ⟨_, _, _, _, _, _, hl, _⟩
  case inr => cases hl
  cases hl
  obtain ⟨hlen, hc⟩ := hown
  rcases hc with ⟨rfl, hn⟩ | ⟨b, cap, cur, rfl, _, hh, hle, hcap, hsz, htk⟩
  · have : l = [] := List.eq_nil_of_length_eq_zero hn
    subst this
    exact .nil _ _ (Nat.zero_le _)
  · simp only [Value.ownBlock] at hb
    refine .sl l b 0 cap (P.cellsOf ty) (fun i => cur.getD i undef) hle hcap (ho b hb.symm) hfit (fun i hi => ?_) fun i c hi => ?_
    · rw [Nat.zero_add, cell_of_row w b i cur ty (0, 0) hh]
      have : i < cur.size := by rw [hsz]; exact Nat.lt_of_lt_of_le hi (Nat.mul_le_mul_right _ hle)
      simp [Array.getD_eq_getD_getElem?, this]
    · obtain ⟨u, hu, hr⟩ := hrd i c hi
      have hu' : cur.getD i undef = u := by
        rw [← htk, List.getElem?_take] at hu
        split at hu
        · simp only [Array.getD_eq_getD_getElem?]
          have : cur[i]? = some u := by simpa using hu
          rw [this]; rfl
        · simp at hu
      rw [hu']
      exact hr.flat (hfl c (List.mem_of_getElem? hi))
/-- a function that tells a list of its own, without lists in it -/
theorem vc_fresh {P : Program} {f : FuncId} {fn : Func} {cf : Fn} {fresh : FuncId → Bool} {sig : FuncId → Option (List OT)} {ks : List OT} {t : Nat} {ty : TypeId} (hf : P.funcs[f]? = some fn) (hm : P.follows .mixedOrders = true) (hname : callable P f = true) (hres1 : fn.results = #[.tmp t]) (hc : compFn P fresh sig ks [(t, .own ty)] fn = some cf)
    {args : List V} {l : List V} (hks : ks = args.map fun _ => .fz) (hfl : ∀ c ∈ flat l, c.flatc = true)
    (hw : wpS P cf.body (args.map .v) (fun s => resV s cf.res = some (.sl l)) (fun _ _ => False) (fun s => resV s cf.res = some (.sl l))) : VC P f true args (.sl l) := by
  refine ⟨hname, fun w G vs hG hvs hrd => ?_⟩
  subst hks
  have hok : Ok w.heap.size G w { F := G, bl := fun _ _ => none, K := fun _ => False } := ⟨Nat.le_refl _, hG, fun b hb => .inl hb, fun b hb => hb, fun t i b hb => (by cases hb), fun t i u j b hb => (by cases hb), fun b hb => hb.elim, fun t i b hb => (by cases hb), fun b hb => .inl hb⟩
  refine fn_run (h := { F := G, bl := fun _ _ => none, K := fun _ => False }) (B := w.heap.size) (Rt := fun s => resV s cf.res = some (.sl l)) hf hm hc (by rw [argsS_fz]; exact hw) hok ⟨by simp, by simpa using hvs, fun i k x hk hx => ?_⟩ fun c s S a w' h' hP hix _ hres hr hrel hnil hK hfrm hfin => ?_
  · simp only [List.getElem?_map, Option.map_eq_some_iff] at hk
    obtain ⟨y, _, rfl⟩ := hk
    exact ⟨_, rfl, x, rfl, (hrd i x hx).mono fun b hb => .inl hb⟩
  · subst hP
    simp only [okFin, Bool.and_eq_true, List.all_eq_true] at hfin
    obtain ⟨hrel2, hnil2⟩ := RelS_weak hrel hnil hfin.2
    have hat : (entry c [(t, OT.own ty)]).at t = ([], .own ty (.s (c.ix t))) := by
      rw [entry_at]; simp [SS.at, entryK]
    obtain ⟨u, hu, hk⟩ := hrel2.at_ t (by rw [hat]; exact holds_ix0 s c) (by rw [hat]; rfl)
    rw [hat] at hk
    obtain ⟨X, hX, hown⟩ := hk
    rw [hres, resOf_eq, hres1] at hr
    simp only [List.map_cons, List.map_nil, rkOf, resV, resV1] at hr
    have hXl : X = .sl l := by
      simp only [eval] at hX
      cases hg : get s (c.ix t) <;> rw [hg] at hX hr <;> simp at hX hr
      rw [← hX, hr]
    subst hXl
    have hrd' : Rd w' (fun b => (true = false ∧ G b) ∨ (w.heap.size ≤ b ∧ b < w'.heap.size)) (.sl l) u := by
      refine OwnV.rd_flat hown hfl fun b hb => .inr ?_
      obtain ⟨q1, q2, _⟩ := hrel2.ok.b_lt t 1 b hb
      exact ⟨q1, q2⟩
    refine ⟨u, ?_, u, rfl, hfrm.below, hrd'⟩
    rw [results_tmp hres1]
    simp [Array.getD_eq_getD_getElem?, hu]
/-- what writes nothing writes nothing -/
theorem vcm_of_vc {P : Program} {f : FuncId} {xs : List V} {r : V} (hv : VC P f false xs r) : VCM P f (xs.map fun _ => .fz) xs r := by
  obtain ⟨h1, h2⟩ := hv
  refine ⟨h1, fun B w h vs hok hA => ?_⟩
  obtain ⟨hxl, hvl, hAi⟩ := hA
  refine Calls.mono (h2 w h.F vs hok.f_lt (by simpa using hvl) fun i x hx => ?_) fun e w' he => ?_
  · obtain ⟨tk, harg, hrel⟩ := hAi i .fz x (by simp [hx]) hx
    simp only [argK, Option.some.injEq] at harg
    subst harg
    obtain ⟨y, q1, q2⟩ := hrel
    simp only [eval, Option.some.injEq] at q1
    subst q1
    exact q2.F
  · obtain ⟨v, rfl, hbel, hrd⟩ := he
    have hsz := hbel.size
    have hno : ∀ (xs : List V), outsV (xs.map fun _ => OT.fz) xs = [] := by
      intro xs
      induction xs with
      | nil => rfl
      | cons x xs ih => simp only [List.map_cons, outsV, ih]
    refine ⟨v, r, xs, { F := fun b => h.F b ∨ (w.heap.size ≤ b ∧ b < w'.heap.size), bl := fun _ _ => none, K := h.K }, rfl, hbel.mono hok.base, fun b hb => hbel.block b (hok.k_lt b hb), ⟨Nat.le_trans hok.base hsz, fun b hb => ?_, fun b hb => ?_, fun b hb => .inl hb, fun t i b hb => (by cases hb), fun t i u j b hb => (by cases hb), fun b hb => Nat.lt_of_lt_of_le (hok.k_lt b hb) hsz, fun t i b hb => (by cases hb), fun b hb => ?_⟩, rfl, hrd.mono fun b hb => ?_, ⟨by simp, fun i k y hk hkz => ?_⟩, by rw [hno]; rfl⟩
    · rcases hb with hb | hb
      · exact Nat.lt_of_lt_of_le (hok.f_lt b hb) hsz
      · exact hb.2
    · rcases hb with hb | hb
      · exact .inl hb
      · exact .inr (Nat.le_trans hok.base hb.1)
    · rcases hb with hb | hb
      · exact .inl hb
      · exact .inr fun hkb => by have := hok.k_lt b hkb; omega
    · rcases hb with ⟨_, hb⟩ | hb
      · exact .inl hb
      · exact .inr hb
    · simp only [List.getElem?_map, Option.map_eq_some_iff] at hk
      obtain ⟨y, _, rfl⟩ := hk
      exact absurd rfl hkz
end Vm
