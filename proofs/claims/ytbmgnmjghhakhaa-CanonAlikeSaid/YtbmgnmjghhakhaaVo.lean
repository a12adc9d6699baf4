/-
  Operations that turn more than their own temporary (2): stores into lists and arrays; structs of own lists; append.
-/
import Derived.Test.YtbmgnmjghhakhaaVn
namespace Vm
open Go
open Go.RowKit (Below)
set_option linter.unusedSimpArgs false
set_option linter.unusedVariables false

theorem setCells_get {cs b : List V} {o : Nat} (hle : o + b.length ≤ cs.length) : (setCells cs o b).length = cs.length ∧ (∀ i, i < b.length → (setCells cs o b)[o + i]? = b[i]?) ∧ ∀ i, i < o ∨ o + b.length ≤ i → (setCells cs o b)[i]? = cs[i]? := by
  unfold setCells
  refine ⟨by simp; omega, fun i hi => ?_, fun i hi => ?_⟩
  · rw [List.getElem?_append_left (by simp; omega), List.getElem?_append_right (by simp; omega)]
    congr 1
    simp; omega
  · rcases hi with hi | hi
    · rw [List.getElem?_append_left (by simp; omega), List.getElem?_append_left (by simp; omega), List.getElem?_take, if_pos hi]
    · rw [List.getElem?_append_right (by simp; omega), List.getElem?_drop]
      congr 1
      simp; omega
theorem setCells_mem {cs b : List V} {o : Nat} {x : V} (hx : x ∈ setCells cs o b) : x ∈ cs ∨ x ∈ b := by
  unfold setCells at hx
  simp only [List.mem_append] at hx
  rcases hx with (hx | hx) | hx
  · exact .inl (List.mem_of_mem_take hx)
  · exact .inr hx
  · exact .inl (List.mem_of_mem_drop hx)
/-- an element of which some cells are others -/
theorem put_fits {y : V} {k o : Nat} {b : List V} (hy : y.fits k) (hb : ∀ x ∈ b, x.one = true) (hne : b ≠ []) (hle : o + b.length ≤ y.cells.length) :
    (y.put o b).fits k ∧ (∀ i, i < b.length → (y.put o b).cells[o + i]? = b[i]?) ∧ ∀ i, i < o ∨ o + b.length ≤ i → (y.put o b).cells[i]? = y.cells[i]? := by
  have other : y.cells = [y] → y.put o b = b.headD y → (y.put o b).fits k ∧ (∀ i, i < b.length → (y.put o b).cells[o + i]? = b[i]?) ∧ ∀ i, i < o ∨ o + b.length ≤ i → (y.put o b).cells[i]? = y.cells[i]? := by
    intro hyc hput
    have hlen : y.cells.length = 1 := by rw [hyc]; rfl
    match b, hne, hle with
    | [z], _, hle =>
      simp only [List.length_singleton] at hle
      have ho : o = 0 := by omega
      subst ho
      have hz := hb z (by simp)
      have hpz : y.put 0 [z] = z := by rw [hput]; rfl
      rw [hpz]
      refine ⟨⟨by rw [one_cells hz, ← hy.1, hlen]; rfl, fun c hc => by rw [one_cells hz] at hc; simp at hc; subst hc; exact hz⟩, fun i hi => ?_, fun i hi => ?_⟩
      · have : i = 0 := by simpa using hi
        subst this
        rw [one_cells hz]
      · have h1 : 1 ≤ i := by simp at hi; omega
        rw [one_cells hz, hyc]
        simp [List.getElem?_eq_none, h1]
    | z :: z' :: r, _, hle => simp only [List.length_cons] at hle; omega
  cases y with
  | agg cs =>
    have hle' : o + b.length ≤ cs.length := hle
    obtain ⟨h1, h2, h3⟩ := setCells_get hle'
    refine ⟨⟨by show (setCells cs o b).length = k; rw [h1]; exact hy.1, fun c hc => ?_⟩, h2, h3⟩
    rcases setCells_mem (show c ∈ setCells cs o b from hc) with hc | hc
    · exact hy.2 c hc
    · exact hb c hc
  | tup l => exact other rfl rfl
  | int k n => exact other rfl rfl
  | bool v => exact other rfl rfl
  | str v => exact other rfl rfl
  | sl l => exact other rfl rfl
  | ptr l => exact other rfl rfl
  | fn f => exact other rfl rfl
  | mp id ks xs => exact other rfl rfl

theorem updV_some {x i z u : V} {o : Nat} (hz : updV x i o z = some u) : ∃ l ki q y, x = .sl l ∧ i = .int ki (q : Nat) ∧ l[q]? = some y ∧ o + z.cells.length ≤ y.cells.length ∧ z.cells ≠ [] ∧ u = .sl (l.set q (y.put o z.cells)) := by
  unfold updV at hz
  split at hz
  · rename_i l ki i
    split at hz
    · rename_i h0
      obtain ⟨q, rfl⟩ := Int.eq_ofNat_of_zero_le h0
      rw [Int.toNat_natCast, Option.bind_eq_some_iff] at hz
      obtain ⟨y, hy, hz⟩ := hz
      split at hz
      · rename_i hc
        simp only [Option.some.injEq] at hz
        exact ⟨l, ki, q, y, rfl, rfl, hy, hc.1, hc.2, hz.symm⟩
      · simp at hz
    · simp at hz
  · simp at hz

section
variable {c : Ctx} {B : Nat} {G : Nat → Prop} {s : St} {a a' : Act} {w w' : World} {h h' : GH} {g : Gam} {C : Conds} {fz ps rb : List Nat}

/-- an element's cells are others: the list is the call's own still -/
theorem OwnV.store (hok : Ok B G w h) {p i n : Nat} {ty : TypeId} {x u : V} {v : Value} (hv : OwnV c.P B w h (h.bl p i) ty x v) (hbl : h.bl p i = some n) {ki : IntKind} {q off : Nat} {z : V} (hu : updV x (.int ki (q : Nat)) off z = some u)
    {T : TypeId} (hT : okT c.P T = true) {vz : Value} (hzt : ∀ l, z ≠ .tup l) (hzr : Rd w h.F z vz) (hzn : z.cells.length = c.P.cellsOf T) :
    ∃ row, (Instr.storeAt T (.pointer (some ⟨n, q * c.P.cellsOf ty + off, none⟩)) vz).run c.P w = .ok () (w.setRow n row) ∧ OwnV c.P B (w.setRow n row) h (h.bl p i) ty u v := by
  rcases hv with ⟨l, xs, rfl, h0, hfit, hown, hb, hrd⟩ | ⟨_, _, _, _, _, _, rfl, _⟩
  case inr => obtain ⟨_, _, _, _, hl', _⟩ := updV_some hu; cases hl'
  obtain ⟨l', ki', q', y, hl', hq', hy, hle, hne, rfl⟩ := updV_some hu
  cases hl'
  simp only [V.int.injEq] at hq'
  have hqq : q' = q := by omega
  subst hqq
  obtain ⟨hnB, hnlt, hnF⟩ := hok.b_lt p i n hbl
  obtain ⟨hs1, hs2, hs3⟩ := hzr.cells hzt
  have hyf := hfit y (List.mem_of_getElem? hy)
  obtain ⟨f1, f2, f3⟩ := put_fits hyf (fun x hx => hs2 x hx) hne hle
  have hq : q' < l.length := (List.getElem?_eq_some_iff.1 hy).1
  have hqk : q' * c.P.cellsOf ty + c.P.cellsOf ty ≤ l.length * c.P.cellsOf ty := by rw [← Nat.succ_mul]; exact Nat.mul_le_mul_right _ hq
  rw [hyf.1] at hle
  rcases hown.2 with ⟨rfl, hn⟩ | ⟨n', cap, cur, rfl, hB, hh, hlc, hcap, hsz, htk⟩
  · omega
  · have hnn : n' = n := by
      have : Value.ownBlock (.slice (some ⟨n', 0, none⟩) l.length cap) = some n' := rfl
      rw [this, hbl] at hb; cases hb; rfl
    subst hnn
    have hcl : l.length * c.P.cellsOf ty ≤ cur.size := by rw [hsz]; exact Nat.mul_le_mul_right _ hlc
    have hle' : (q' * c.P.cellsOf ty + off) + vz.cells.size ≤ cur.size := by rw [hs1]; omega
    refine ⟨rowSet cur (q' * c.P.cellsOf ty + off) vz.cells, run_storeRow hT hh (by rw [hs1, hzn]) (fun j hj => ?_) hle', ?_⟩
    · have hj' : j < z.cells.length := by rw [← hs1]; exact hj
      have := hs3 j z.cells[j] (List.getElem?_eq_getElem hj')
      rw [this.one_eq]; exact hs2 _ (List.getElem_mem _)
    · have hfit' : ∀ x ∈ l.set q' (y.put off z.cells), x.fits (c.P.cellsOf ty) := by
        intro x hx
        rcases List.mem_or_eq_of_mem_set hx with hx | rfl
        · exact hfit x hx
        · exact f1
      have hFs : Same h.F w (w.setRow n' (rowSet cur (q' * c.P.cellsOf ty + off) vz.cells)) := setRow_same hok _ fun x hx e => hnF (e ▸ hx)
      have hrs := rowSet_size hle'
      refine .inl ⟨l.set q' (y.put off z.cells), (rowSet cur (q' * c.P.cellsOf ty + off) vz.cells).toList.take (l.length * c.P.cellsOf ty), rfl, h0, hfit', ⟨by simp [hrs]; omega, .inr ⟨n', cap, _, by rw [List.length_set], hB, setRow_heap w n' cur _ ty (0, 0) hh, by simpa using hlc, hcap, by rw [hrs]; exact hsz, by rw [List.length_set]⟩⟩, hb, fun j ck hj => ?_⟩
      obtain ⟨q2, r, y2, hq2, hr, rfl, hyc⟩ := flat_split hfit' h0 hj
      have hq2l : q2 < l.length := by simpa using (List.getElem?_eq_some_iff.1 hq2).1
      have hq2k : q2 * c.P.cellsOf ty + c.P.cellsOf ty ≤ l.length * c.P.cellsOf ty := by rw [← Nat.succ_mul]; exact Nat.mul_le_mul_right _ hq2l
      have hlt : q2 * c.P.cellsOf ty + r < (rowSet cur (q' * c.P.cellsOf ty + off) vz.cells).size := by rw [hrs]; omega
      refine ⟨(rowSet cur (q' * c.P.cellsOf ty + off) vz.cells).getD (q2 * c.P.cellsOf ty + r) undef, ?_, ?_⟩
      · rw [List.getElem?_take, if_pos (by omega), Array.getElem?_toList]
        simp [Array.getD_eq_getD_getElem?, hlt]
      · -- where the cell is not turned
        have old : ∀ y0, l[q2]? = some y0 → y0.cells[r]? = some ck → (q2 * c.P.cellsOf ty + r < q' * c.P.cellsOf ty + off ∨ q' * c.P.cellsOf ty + off + vz.cells.size ≤ q2 * c.P.cellsOf ty + r) →
            Rd (w.setRow n' (rowSet cur (q' * c.P.cellsOf ty + off) vz.cells)) h.F ck ((rowSet cur (q' * c.P.cellsOf ty + off) vz.cells).getD (q2 * c.P.cellsOf ty + r) undef) := by
          intro y0 hy0 hyr hout
          obtain ⟨u0, hu0, hru⟩ := hrd (q2 * c.P.cellsOf ty + r) ck (by rw [flat_at hfit hy0 r hr]; exact hyr)
          rw [rowSet_out hle' hout]
          have : cur.getD (q2 * c.P.cellsOf ty + r) undef = u0 := by
            rw [← htk, List.getElem?_take, if_pos (by omega)] at hu0
            have hu' : cur[q2 * c.P.cellsOf ty + r]? = some u0 := by simpa using hu0
            simp [Array.getD_eq_getD_getElem?, hu']
          rw [this]
          exact hru.keep hFs fun _ hb => hb
        by_cases hqe : q2 = q'
        · subst hqe
          rw [List.getElem?_set_self hq] at hq2
          cases hq2
          by_cases hin : off ≤ r ∧ r < off + z.cells.length
          · have h2 := f2 (r - off) (by omega)
            rw [show off + (r - off) = r from by omega, hyc] at h2
            have h3 := rowSet_in hle' (i := r - off) (by omega)
            rw [show q2 * c.P.cellsOf ty + off + (r - off) = q2 * c.P.cellsOf ty + r from by omega] at h3
            rw [h3]
            exact (hs3 (r - off) ck h2.symm).keep hFs fun _ hb => hb
          · have h3 := f3 r (by omega)
            rw [hyc] at h3
            exact old y hy h3.symm (by omega)
        · rw [List.getElem?_set_ne (Ne.symm hqe)] at hq2
          have hsep : q2 * c.P.cellsOf ty + c.P.cellsOf ty ≤ q' * c.P.cellsOf ty ∨ q' * c.P.cellsOf ty + c.P.cellsOf ty ≤ q2 * c.P.cellsOf ty := by
            rcases Nat.lt_or_gt_of_ne hqe with hlt' | hlt'
            · left; rw [← Nat.succ_mul]; exact Nat.mul_le_mul_right _ hlt'
            · right; rw [← Nat.succ_mul]; exact Nat.mul_le_mul_right _ hlt'
          exact old y2 hq2 hyc (by omega)

theorem mkStoreE_run (hr : RelG c B G s a w h g) {T : TypeId} (hT : okT c.P T = true) (hT1 : isAggT c.P T = true ∨ c.P.cellsOf T = 1) {p off kk : Nat} {i : Option Nat} {j : E} {x : Operand} {m : MS} (hm : mkStoreE c g T p i j off kk x = some m) (hes : ∀ e ∈ m.es, ∃ z, eval s e = some z)
    {n q : Nat} (hbl : h.bl p (plI i) = some n) {ki : IntKind} (hj : eval s j = some (.int ki (q : Nat))) :
    ∃ w' h', (Instr.storeAt T (.pointer (some ⟨n, q * kk + off, none⟩)) (a.eval x)).run c.P w = .ok () w' ∧ MPost c B G s a w w' h h' m := by
  unfold mkStoreE at hm
  simp only [Option.bind_eq_some_iff] at hm
  obtain ⟨b0, hb0, hm⟩ := hm
  split at hm
  · cases hm
  · rename_i hpf
    have hpf' : p ∉ b0.2 := by simpa using hpf
    have hbl1 : ∀ i, (h.thaw b0.2).bl p i = h.bl p i := fun i => by simp [GH.thaw, hpf']
    have hr1 := hr.frz b0.2
    have upd_e : ∀ {e1 e2 : E} {u : V}, eval s (.upd e1 j off e2) = some u → ∃ y z, eval s e1 = some y ∧ eval s e2 = some z ∧ updV y (.int ki (q : Nat)) off z = some u := by
      intro e1 e2 u hu
      simp only [eval, hj, Option.bind_some, Option.bind_eq_some_iff] at hu
      obtain ⟨y, hy, z, hz, hu⟩ := hu
      exact ⟨y, z, hy, hz, hu⟩
    have zs : ∀ {z : V}, eval s (tyE (isAggT c.P T) (c.P.cellsOf T) b0.1) = some z → (∀ l, z ≠ .tup l) ∧ Rd w (h.thaw b0.2).F z (a.eval x) ∧ z.cells.length = c.P.cellsOf T := by
      intro z hz
      obtain ⟨k1, k2, k3, k4⟩ := kept1 hr hb0 hz
      refine ⟨k1, k4, ?_⟩
      cases hag : isAggT c.P T with
      | true => exact k2 hag
      | false =>
        have : c.P.cellsOf T = 1 := hT1.resolve_left (by rw [hag]; simp)
        rw [one_cells (k3 hag), this]; rfl
    split at hm
    · simp only [Option.bind_eq_some_iff] at hm
      obtain ⟨⟨ty, e⟩, ho, hm⟩ := hm
      split at hm
      · rename_i hkk
        simp only [Option.some.injEq] at hm
        subst hm
        simp only at hkk
        subst hkk
        obtain ⟨v, hv, y, hy, hown⟩ := hr1.ownOf ho
        obtain ⟨u, hu⟩ := hes _ (List.Mem.head _)
        obtain ⟨y', z, hy', hz, hupd⟩ := upd_e hu
        rw [hy] at hy'; cases hy'
        obtain ⟨k1, k2, k3⟩ := zs hz
        have hbl' : (h.thaw b0.2).bl p 1 = some n := by rw [hbl1]; exact hbl
        obtain ⟨row, hrun, hres⟩ := hown.store hr1.ok hbl' hupd hT k1 k2 k3
        obtain ⟨hnB, hnlt, _⟩ := hr1.ok.b_lt p 1 n hbl'
        refine ⟨_, h.thaw b0.2, hrun, Step.after ⟨below_setRow w hnB _, fun x hx hn => setRow_other w n x _ fun e => hn p (by simp) 1 (e ▸ hbl'), fun _ hb => hb, fun _ _ _ => rfl, fun _ _ => rfl, fun _ _ _ _ hm => (by simp at hm), rfl⟩,
          ⟨by simp [World.setRow]; exact hr1.ok.base, fun b hb => (by simp [World.setRow]; exact hr1.ok.f_lt b hb), hr1.ok.f_or, hr1.ok.g_F, fun t i b hb => (by simp [World.setRow]; exact hr1.ok.b_lt t i b hb), hr1.ok.inj, fun b hb => (by simp [World.setRow]; exact hr1.ok.k_lt b hb), hr1.ok.k_bl, hr1.ok.k_F⟩, ent_one (ts := []) ⟨v, hv, u, hu, hres⟩⟩
      · cases hm
    · rename_i q0
      simp only [Option.bind_eq_some_iff] at hm
      obtain ⟨cs, hmem, hm⟩ := hm
      split at hm
      · rename_i ty e0 hc
        split at hm
        · rename_i hkk
          subst hkk
          simp only [Option.map_eq_some_iff] at hm
          obtain ⟨k, hput, rfl⟩ := hm
          obtain ⟨cs', hmem', hle, rfl⟩ := putM_some hput
          rw [hmem] at hmem'; cases hmem'
          obtain ⟨b, vs, ty', hb0', htm, hh, hcs⟩ := hr1.memOf hmem
          obtain ⟨y, hy, hown⟩ := hcs.2 q0 _ hc
          obtain ⟨u, hu⟩ := hes _ (List.Mem.head _)
          obtain ⟨y', z, hy', hz, hupd⟩ := upd_e hu
          rw [hy] at hy'; cases hy'
          obtain ⟨k1, k2, k3⟩ := zs hz
          have hbl' : (h.thaw b0.2).bl p (q0 + 1) = some n := by rw [hbl1]; exact hbl
          obtain ⟨row, hrun, hres⟩ := hown.store hr1.ok hbl' hupd hT k1 k2 k3
          obtain ⟨hnB, hnlt, hnF⟩ := hr1.ok.b_lt p (q0 + 1) n hbl'
          have hbn : b ≠ n := fun e => by
            subst e
            have := (hr1.ok.inj p 0 p (q0 + 1) b hb0' hbl').2; omega
          obtain ⟨hsl, hget⟩ := setRange_get hle
          refine ⟨_, h.thaw b0.2, hrun, Step.after ⟨below_setRow w hnB _, fun x hx hn => setRow_other w n x _ fun e => hn p (by simp) (q0 + 1) (e ▸ hbl'), fun _ hb => hb, fun _ _ _ => rfl, fun _ _ => rfl, fun _ _ _ _ hm => (by simp at hm), rfl⟩,
            ⟨by simp [World.setRow]; exact hr1.ok.base, fun b hb => (by simp [World.setRow]; exact hr1.ok.f_lt b hb), hr1.ok.f_or, hr1.ok.g_F, fun t i b hb => (by simp [World.setRow]; exact hr1.ok.b_lt t i b hb), hr1.ok.inj, fun b hb => (by simp [World.setRow]; exact hr1.ok.k_lt b hb), hr1.ok.k_bl, hr1.ok.k_F⟩,
            ent_one (ts := []) ⟨_, htm, b, vs, ty', hb0', rfl, by rw [setRow_other w n b _ hbn]; exact hh, by rw [hcs.1, hsl], fun i ck hi => ?_⟩⟩
          rcases hget i ck hi with ⟨h1, h2, h3⟩ | ⟨h1, h3⟩
          · have hiq : i = q0 := by simp only [List.length_singleton] at h2; omega
            subst hiq
            simp at h3
            subst h3
            exact ⟨u, hu, hres⟩
          · refine (hcs.2 i ck h3).keep (setRow_same hr1.ok _ fun x hx e => hnF (e ▸ hx)) (fun _ hb => hb) fun x hx => setRow_other w n x _ fun e => ?_
            subst e
            have := (hr1.ok.inj p (i + 1) p (q0 + 1) x hx hbl').2
            simp only [List.length_singleton] at h1
            omega
        · cases hm
      · cases hm

theorem aputV_some {x i u z : V} {n k : Nat} (hz : aputV x i n k z = some u) : ∃ cs ki j, x = .agg cs ∧ i = .int ki (j : Nat) ∧ j < n ∧ cs.length = n * k ∧ z.cells.length = k ∧ u = .agg (setCells cs (j * k) z.cells) := by
  unfold aputV at hz
  split at hz
  · rename_i cs ki i
    split at hz
    · rename_i hc
      obtain ⟨h0, h1, h2, h3⟩ := hc
      obtain ⟨j, rfl⟩ := Int.eq_ofNat_of_zero_le h0
      simp only [Int.toNat_natCast, Option.some.injEq] at hz
      exact ⟨cs, ki, j, rfl, rfl, by omega, h2, h3, hz.symm⟩
    · simp at hz
  · simp at hz
theorem mkStoreA_run (hr : RelG c B G s a w h g) {T : TypeId} (hT : okT c.P T = true) {p o n kk : Nat} {j : E} {x : Operand} {m : MS} (hm : mkStoreA c g T p o j n kk x = some m) (hes : ∀ e ∈ m.es, ∃ z, eval s e = some z)
    {b q : Nat} (hbl : h.bl p 0 = some b) {ki : IntKind} (hj : eval s j = some (.int ki (q : Nat))) (hq : q < n) :
    ∃ w' h', (Instr.storeAt T (.pointer (some ⟨b, o + q * kk, none⟩)) (a.eval x)).run c.P w = .ok () w' ∧ MPost c B G s a w w' h h' m := by
  unfold mkStoreA at hm
  simp only [Option.bind_eq_some_iff] at hm
  obtain ⟨b0, hb0, hm⟩ := hm
  split at hm
  · cases hm
  · rename_i hcond
    simp only [Bool.or_eq_true, Bool.not_eq_true', decide_eq_true_eq, not_or, Decidable.not_not, Bool.not_eq_false, List.isEmpty_iff] at hcond
    obtain ⟨hsh, hk⟩ := hcond
    simp only [Option.bind_eq_some_iff] at hm
    obtain ⟨cs, hmem, hm⟩ := hm
    split at hm
    · rename_i hpart
      obtain ⟨hpl, hpf⟩ := hpart
      simp only [Option.map_eq_some_iff] at hm
      obtain ⟨k, hput, rfl⟩ := hm
      obtain ⟨cs', hmem', hle, rfl⟩ := putM_some hput
      rw [hmem] at hmem'; cases hmem'
      obtain ⟨b', cur, ty, h1, htm, hh, hcs⟩ := hr.memOf hmem
      rw [hbl] at h1; cases h1
      obtain ⟨u, hu⟩ := hes _ (List.Mem.head _)
      have hu0 := hu
      simp only [eval, hj, Option.bind_some, Option.bind_eq_some_iff] at hu
      obtain ⟨y, hy, z, hz, hu⟩ := hu
      obtain ⟨cs0, ki', q', rfl, hq', hqn, hcl, hzl, rfl⟩ := aputV_some hu
      have hqq : q' = q := by simp only [V.int.injEq] at hq'; omega
      subst hqq
      obtain ⟨k1, k2, k3, k4⟩ := kept1 hr hb0 hz
      have hF : ∀ b, (h.thaw b0.2).F b → h.F b := by
        intro b hb
        rcases hb with hb | ⟨t, ht, _⟩
        · exact hb
        · rw [hsh] at ht; simp at ht
      have k4 := k4.mono hF
      obtain ⟨hs1, hs2, hs3⟩ := k4.cells k1
      -- the part as it was
      have hnd : anyDead ((cs.drop o).take (n * kk)) = false := by
        simp only [anyDead, List.any_eq_false, Bool.not_eq_true, beq_eq_false_iff_ne, ne_eq]
        intro ck hck hd
        have := List.all_eq_true.1 hpf ck hck
        rw [hd] at this; simp at this
      have hno : anyOwn ((cs.drop o).take (n * kk)) = false := by
        simp only [anyOwn, List.any_eq_false, Bool.not_eq_true]
        intro ck hck
        have := List.all_eq_true.1 hpf ck hck
        simp only [beq_iff_eq] at this
        rw [this]
      obtain ⟨xs, hxe, hxl, hxo, hxr, hxv⟩ := hcs.part_rd hpl hnd (G' := h.F) (fun _ hb => hb) (fun ho => by rw [hno] at ho; cases ho)
      have hle1 : q' * kk + kk ≤ n * kk := by rw [← Nat.succ_mul]; exact Nat.mul_le_mul_right _ hqn
      have hkpos : 0 < n * kk ∨ n * kk = 0 := by omega
      have hcx : cs0 = xs := by
        rcases hkpos with hpos | hzero
        · have hev : eval s (if plainRun (c.ix p) o ((cs.drop o).take (n * kk)) = true then E.mm (c.ix p) o (n * kk) else .ag (((cs.drop o).take (n * kk)).map (·.2))) = some (.agg xs) := by
            split
            · rename_i hp
              have := eval_run hp (by rw [hpl]; exact hpos) hxe hxo
              rw [hpl] at this; exact this
            · exact hxe
          rw [hev] at hy
          simp only [Option.some.injEq, V.agg.injEq] at hy
          exact hy.symm
        · have e1 : cs0 = [] := List.eq_nil_of_length_eq_zero (by rw [hcl, hzero])
          have e2 : xs = [] := List.eq_nil_of_length_eq_zero (by rw [hxl, hzero])
          rw [e1, e2]
      subst hcx
      have hvn : (a.eval x).cells.size = kk := by rw [hs1, hzl]
      have hnl : o + n * kk ≤ cur.size := by
        have := hcs.1
        simp only [List.length_take, List.length_drop] at hpl
        omega
      have hle2 : (o + q' * kk) + (a.eval x).cells.size ≤ cur.size := by rw [hvn]; omega
      have hxcell : ∀ i (y : V), cs0[i]? = some y → y.one = true ∧ Rd w h.F y (cur.getD (o + i) undef) := by
        intro i y hi
        have hlt : i < n * kk := by rw [← hcl]; exact (List.getElem?_eq_some_iff.1 hi).1
        cases hxr with
        | agg _ _ e1 e2 e3 =>
          have := e3 i y hi
          have hg : ((cur.toList.drop o).take (n * kk)).toArray.getD i undef = cur.getD (o + i) undef := by
            simp only [Array.getD_eq_getD_getElem?, List.getElem?_toArray, List.getElem?_take, if_pos hlt, List.getElem?_drop, Array.getElem?_toList]
          rw [hg] at this
          exact ⟨e2 y (List.mem_of_getElem? hi), this⟩
      obtain ⟨g1, g2, g3⟩ := setCells_get (cs := cs0) (b := z.cells) (o := q' * kk) (by rw [hzl, hcl]; exact hle1)
      obtain ⟨h', e1, e2, e3⟩ := storeM_core (row := rowSet cur (o + q' * kk) (a.eval x).cells) (new := (List.range (n * kk)).map fun i => (CK.fz, E.fld (E.aput (if plainRun (c.ix p) o ((cs.drop o).take (n * kk)) = true then E.mm (c.ix p) o (n * kk) else .ag (((cs.drop o).take (n * kk)).map (·.2))) j n kk (tyE (isAggT c.P T) (c.P.cellsOf T) b0.1)) i)) hr.ok hbl hh hcs (rowSet_size hle2) hle (fun i hi => rowSet_out hle2 (by simp only [List.length_map, List.length_range] at hi; omega)) (ts := []) (f := h.bl p) (by simp) rfl (fun _ _ => rfl) (fun i x _ hx => .inl hx)
        (fun i j x hi hj => (hr.ok.inj p i p j x hi hj).2) (fun i ck hi => by
          obtain ⟨hlt, rfl⟩ := range_map_get hi
          have hgl : i < (setCells cs0 (q' * kk) z.cells).length := by rw [g1, hcl]; exact hlt
          have key : ((setCells cs0 (q' * kk) z.cells)[i]).one = true ∧ Rd w h.F (setCells cs0 (q' * kk) z.cells)[i] ((rowSet cur (o + q' * kk) (a.eval x).cells).getD (o + i) undef) := by
            have hsome : (setCells cs0 (q' * kk) z.cells)[i]? = some (setCells cs0 (q' * kk) z.cells)[i] := List.getElem?_eq_getElem hgl
            by_cases hin : q' * kk ≤ i ∧ i < q' * kk + kk
            · have h2 := g2 (i - q' * kk) (by rw [hzl]; omega)
              rw [show q' * kk + (i - q' * kk) = i from by omega, hsome] at h2
              have h3 := rowSet_in hle2 (i := i - q' * kk) (by rw [hvn]; omega)
              rw [show o + q' * kk + (i - q' * kk) = o + i from by omega] at h3
              rw [h3]
              exact ⟨hs2 _ (List.mem_of_getElem? h2.symm), hs3 _ _ h2.symm⟩
            · have h2 := g3 i (by rw [hzl]; omega)
              rw [hsome] at h2
              rw [rowSet_out hle2 (by rw [hvn]; omega)]
              exact hxcell i _ h2.symm
          refine ⟨_, ?_, key.1, key.2⟩
          refine Eq.trans (b := (some (V.agg (setCells cs0 (q' * kk) z.cells))).bind fun y => fldV y i) (congrArg (fun y => Option.bind y fun y => fldV y i) hu0) ?_
          show ((setCells cs0 (q' * kk) z.cells)[i]?).bind oneV = _
          rw [List.getElem?_eq_getElem hgl, Option.bind_some]
          unfold oneV
          rw [if_pos key.1]) (fun p => a.tmps[p]?)
      exact ⟨_, h', run_storeRow hT hh (by rw [hvn, hk]) (fun i hi => by
        have hi' : i < z.cells.length := by rw [← hs1]; exact hi
        rw [(hs3 i _ (List.getElem?_eq_getElem hi')).one_eq]
        exact hs2 _ (List.getElem_mem _)) hle2, e2, e1, ent_one (ts := []) ⟨_, htm, e3⟩⟩
    · cases hm
end
end Vm
