/-
  A region that the compiler takes.
-/
import Derived.Test.YtbmgnmjghhakhaaVv
namespace Vm
open Go
open Go.RowKit (Below)
set_option linter.unusedSimpArgs false
set_option linter.unusedVariables false
/-- a slot that holds no list yet: the state has the empty one -/
def NilOk (c : Ctx) (s : St) (S : SS) : Prop := ∀ p, S.at p = some .nil → get s (c.ix p) = .v (.sl [])
theorem atSS_mem : ∀ {S : SS} {p : Nat} {k : OT}, S.at p = some k → (p, k) ∈ S
  | [], p, k, h => by cases h
  | (q, k') :: S, p, k, h => by
    simp only [SS.at] at h
    split at h
    · rename_i e; subst e; cases h; simp
    · exact List.mem_cons_of_mem _ (atSS_mem h)
section
variable {c : Ctx} {B : Nat} {G : Nat → Prop} {s t u : St} {a a' : Act} {w w' : World} {h h' : GH} {g : Gam} {S S' : SS}

theorem outOne_ix {S0 : SS} {p : Nat} {x : Nat × OV} (h : outOne c S0 g p = some x) : x.1 = c.ix p := by
  unfold outOne at h
  simp only at h
  generalize (if (g.at p).1.isEmpty = true then ovK (g.at p).2 else OV.no) = o at h
  split at h
  · cases h
  · split at h <;> first | (cases h; done) | (simp only [Option.some.injEq] at h; subst h; rfl)
theorem evals_each {l : List E} {xs : List V} (h : evals t l = some xs) : ∀ e ∈ l, ∃ v, eval t e = some v := by
  intro e he
  obtain ⟨_, hg⟩ := evals_map h
  obtain ⟨i, hi⟩ := List.getElem?_of_mem he
  obtain ⟨x, _, hx⟩ := hg i e hi
  exact ⟨x, hx⟩
theorem ov_each {o : OV} {v : SV} (h : ovV t o = some v) : ∀ e ∈ ovE o, ∃ v, eval t e = some v := by
  intro e he
  cases o with
  | v e' =>
    have : e = e' := by simpa [ovE] using he
    subst this
    simp only [ovV, Option.map_eq_some_iff] at h
    obtain ⟨x, hx, _⟩ := h
    exact ⟨x, hx⟩
  | m l =>
    simp only [ovV, Option.map_eq_some_iff] at h
    obtain ⟨xs, hxs, _⟩ := h
    exact evals_each hxs e he
  | no => simp [ovE] at he
theorem keptSh_mem {keep : List Nat} {p : Nat} {e : E} {l : List Nat} (hp : p ∈ keep) (hg : g.at p = ([], .val e l)) : ∀ q ∈ l, q ∈ keptSh keep g := by
  intro q hq
  simp only [keptSh, List.mem_flatMap]
  exact ⟨p, hp, by rw [hg]; exact hq⟩

theorem reg_wp {P : Program} {ix : Nat → Nat} {fresh : FuncId → Bool} {sig : FuncId → Option (List OT)} {tr fix : List Nat} {n : Nat} {keep : List Nat} {draw : Bool} {ops : Array Oper} {r : Reg} (hm : draw = true → P.follows .mixedOrders = true) (hc : compReg P ix fresh sig tr fix n keep draw ops S = some (r, S'))
    (hinj : ∀ p ∈ keep, ∀ q ∈ keep, ix p = ix q → p = q) (hP : c.P = P) (hix : c.ix = ix) (hr : RelG c B G s a w h (entry c S)) (hnil : NilOk c s S) (hn : n ≤ a.tmps.size) {K : St → Prop} (hK : wpR P r s K) {id : Nat} {Q : Exit → Act → World → Prop}
    (hQ : ∀ a' w' s' h', K s' → RelG c B G s' a' w' h' (entry c S') → NilOk c s' S' → h'.K = h.K → Frm h.K (fun t => t ∈ fix) a.tmps B w a' w' → a'.tmps.size = a.tmps.size → a'.defers = a.defers → Q .normal a' w') : (Code.region id ops draw).wp P Q a w := by
  unfold compReg at hc
  simp only [Option.bind_eq_some_iff] at hc
  obtain ⟨⟨gf, xs⟩, hst, hc⟩ := hc
  simp only at hc
  split at hc
  · rename_i hcond
    simp only [Bool.and_eq_true] at hcond
    obtain ⟨⟨⟨hfix, hord⟩, hefs⟩, hlets⟩ := hcond
    simp only [Option.some.injEq, Prod.mk.injEq] at hc
    obtain ⟨rfl, rfl⟩ := hc
    generalize hcc : ({ P := P, ix := ix, own := fun t => (ownUses ops).contains t, fresh := fresh, sig := sig, tr := tr, n := n } : Ctx) = cc at *
    have hccP : cc.P = P := by rw [← hcc]
    have hccix : cc.ix = ix := by rw [← hcc]
    have hccn : cc.n = n := by rw [← hcc]
    have hent : ∀ S, entry cc S = entry c S := by
      intro S
      simp only [entry]
      refine List.map_congr_left fun x _ => ?_
      cases x.2 <;> simp [entryK, hccix, hix]
    obtain ⟨hf, rfl⟩ := fine_of hst hord
    obtain ⟨t, ⟨hchk, hout⟩, hef, hag⟩ := wpE_sound hefs hK
    obtain ⟨u, hKu, ho1, ho2, ho3⟩ := wpO_spec hout
    -- all that is asked has values
    have hall : AllSome t (xs.flatMap fun x => x.os.chks) := by
      refine prune_sound (fun x hx hh => ?_) (wpC_some hchk)
      rcases List.mem_append.1 hx with hx | hx
      · obtain ⟨ef, hef1, hx⟩ := List.mem_flatMap.1 hx
        have hefo := hef ef hef1
        cases ef with
        | lt i C e =>
          have : x = (C, e) := by simpa [efE] using hx
          subst this
          obtain ⟨v, hv, _⟩ := hefo hh
          exact ⟨v, hv⟩
        | call i C f fr fl as =>
          obtain ⟨e, he, rfl⟩ := List.mem_map.1 hx
          obtain ⟨ys, _, hys, _⟩ := hefo hh
          exact evals_each hys e he
        | callm i C f ks as =>
          obtain ⟨e, he, rfl⟩ := List.mem_map.1 hx
          obtain ⟨ys, n, _, hys, hfn, _⟩ := hefo.1 hh
          rcases List.mem_append.1 he with he | he
          · cases f with
            | id q => simp [FN.es] at he
            | e q =>
              simp only [FN.es, List.mem_singleton] at he
              subst he
              simp only [fnOf] at hfn
              split at hfn
              · exact ⟨_, by assumption⟩
              · cases hfn
          · exact evals_each hys e he
      · obtain ⟨y, hy, hx⟩ := List.mem_flatMap.1 hx
        obtain ⟨e, he, rfl⟩ := List.mem_map.1 hx
        obtain ⟨v, hv⟩ := ho1 y hy
        exact ov_each hv e he
    have hos : ∀ x ∈ xs, okOS cc.P t x.os := by
      intro x hx
      rw [hccP]
      exact ⟨fun ef hef1 => hef ef (List.mem_flatMap.2 ⟨x, hx, hef1⟩), fun y hy => hall y (List.mem_flatMap.2 ⟨x, hx, hy⟩)⟩
    have hr1 : RelG cc B G t a w h (entry cc S) := by
      have h1 : RelG cc B G s a w h (entry cc S) := by
        rw [hent]; exact hr.ctx (by rw [hccP, hP]) (by rw [hccix, hix])
      refine h1.agree fun x hx => hag _ fun ef hef1 he => ?_
      simp only [List.all_eq_true, bne_iff_ne, ne_eq] at hlets
      exact hlets ef hef1 x hx (by rw [← hccix]; exact he.symm)
    have hget : ∀ p ∈ keep, match outOne cc S (frz (keptSh keep (gAll xs (entry cc S))) (gAll xs (entry cc S))) p with | some x => ∃ v, ovV t x.2 = some v ∧ get u (cc.ix p) = v | none => get u (cc.ix p) = get t (cc.ix p) := by
      intro p hp
      have huniq : ∀ q ∈ keep, ∀ y, outOne cc S (frz (keptSh keep (gAll xs (entry cc S))) (gAll xs (entry cc S))) q = some y → y.1 = cc.ix p → q = p := fun q hq y hy he => by
        have := outOne_ix hy
        exact hinj q hq p hp (by rw [← hccix, ← this]; exact he)
      split
      · rename_i x hx
        have hxm : x ∈ outOV cc S keep (frz (keptSh keep (gAll xs (entry cc S))) (gAll xs (entry cc S))) := List.mem_filterMap.2 ⟨p, hp, hx⟩
        obtain ⟨v, hv⟩ := ho1 x hxm
        have hxi := outOne_ix hx
        refine ⟨v, hv, ?_⟩
        rw [← hxi]
        refine ho3 x hxm (fun y hy hyx => ?_) v hv
        obtain ⟨q, hq, hy'⟩ := List.mem_filterMap.1 hy
        have := huniq q hq y hy' (hyx.trans hxi)
        subst this
        rw [hx] at hy'; cases hy'; rfl
      · rename_i hx
        refine ho2 _ fun y hy he => ?_
        obtain ⟨q, hq, hy'⟩ := List.mem_filterMap.1 hy
        have := huniq q hq y hy' he
        subst this
        rw [hx] at hy'; cases hy'
    have hnil' : NilOk c u (outSS keep (frz (keptSh keep (gAll xs (entry cc S))) (gAll xs (entry cc S)))) := by
      intro p hp
      obtain ⟨hpk, hc0, hk⟩ := outSS_at hp
      have hkn : ((frz (keptSh keep (gAll xs (entry cc S))) (gAll xs (entry cc S))).at p).2 = .nil := by
        cases hkk : ((frz (keptSh keep (gAll xs (entry cc S))) (gAll xs (entry cc S))).at p).2 <;> rw [hkk] at hk <;> simp [outK] at hk ⊢
      have hgp := hget p hpk
      have hone : outOne cc S (frz (keptSh keep (gAll xs (entry cc S))) (gAll xs (entry cc S))) p = if S.at p = some .nil then none else some (cc.ix p, .v (.c (.sl []))) := by
        unfold outOne
        simp only [hc0, hkn, List.isEmpty_nil, if_true, ovK, sameOV, Bool.false_eq_true, if_false]
        cases hSp : S.at p with
        | none => simp
        | some k => cases k <;> simp
      rw [hone] at hgp
      rw [hix, ← hccix]
      by_cases hSp : S.at p = some .nil
      · rw [if_pos hSp] at hgp
        simp only at hgp
        rw [hgp, hag]
        · have := hnil p hSp
          rw [hix, ← hccix] at this; exact this
        · intro ef hef1 he
          simp only [List.all_eq_true, bne_iff_ne, ne_eq] at hlets
          exact hlets ef hef1 _ (atSS_mem hSp) (by rw [← hccix]; exact he.symm)
      · rw [if_neg hSp] at hgp
        obtain ⟨v, h1, h2⟩ := hgp
        simp only [ovV, eval, Option.map_some, Option.some.injEq] at h1
        rw [h2, ← h1]
    have hfx : ∀ o ∈ ops, ∀ d, o.dst = some d → ¬ d ∈ fix := fun o ho d hd hm => by
      have := List.all_eq_true.1 hfix o (by simpa using ho)
      rw [hd] at this
      simp at this
      exact this hm
    have hwp := region_run (c := cc) (id := id) (Q := Q) (by rw [hccP]; exact hm) hf hos (by rw [hccn]; exact hn) hr1 hfx fun a' w' h' hrel hKk hb h1 h2 => by
      have hfz := hrel.frz (keptSh keep (gAll xs (entry cc S)))
      refine hQ a' w' u (h'.thaw (keptSh keep (gAll xs (entry cc S)))) hKu ?_ hnil' hKk hb h1 h2
      rw [← hent]
      have hfin := region_outs (u := u) (keep := keep) (sh := []) (S0 := S) hfz (fun p hp e l hg b hbx => ?_) fun p hp => ?_
      · exact hfin.ctx (by rw [hccP, hP]) (by rw [hccix, hix])
      · -- what is kept shares with nobody
        have hsub : ∀ q ∈ l, q ∈ keptSh keep (gAll xs (entry cc S)) := by
          unfold frz at hg
          rw [at_append, at_append] at hg
          split at hg
          · split at hg
            · rename_i hk
              rw [killD_at hk] at hg; simp at hg
            · rename_i hk1 hk2
              have hpf : p ∈ keptSh keep (gAll xs (entry cc S)) := by
                simp only [domOf, List.map_append, List.mem_append] at hk1
                have := hk1.resolve_left hk2
                have h3 := freezeD_dom (fz := keptSh keep (gAll xs (entry cc S))) (g := gAll xs (entry cc S))
                unfold domOf at h3
                rw [h3] at this; exact this
              rw [freezeD_at hpf] at hg
              simp only [Prod.mk.injEq] at hg
              obtain ⟨hg1, hg2⟩ := hg
              cases hk : ((gAll xs (entry cc S)).at p).2 <;> rw [hk] at hg2 <;> simp only [freezeK] at hg2 <;> first | (cases hg2; done) | skip
              · simp only [TK.val.injEq] at hg2
                obtain ⟨rfl, rfl⟩ := hg2
                rename_i e' l'
                exact keptSh_mem hp (Prod.ext hg1 hk)
              · simp only [TK.val.injEq] at hg2
                obtain ⟨_, rfl⟩ := hg2
                intro q hq; simp at hq
              · split at hg2
                · cases hg2
                · simp only [TK.val.injEq] at hg2
                  obtain ⟨_, rfl⟩ := hg2
                  intro q hq; simp at hq
          · exact keptSh_mem hp hg
        rcases hbx with hbx | ⟨q, hq, i, hi⟩
        · exact hbx
        · simp only [GH.thaw] at hi
          rw [if_pos ⟨hsub q hq, by omega⟩] at hi
          cases hi
      · exact hget p hp
    rw [hccP] at hwp
    exact hwp
  · cases hc
end
end Vm
