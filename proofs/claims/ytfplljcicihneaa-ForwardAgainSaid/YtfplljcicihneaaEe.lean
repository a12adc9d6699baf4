/-
  (*forward.work).carry, walked by hand.
-/
import Derived.Test.YtfplljcicihneaaEd
namespace Vm
open Go Go.Proofs Go.RowKit
set_option maxHeartbeats 4000000
set_option maxRecDepth 100000
set_option linter.unusedSimpArgs false
set_option linter.unusedVariables false
/-- the heap that is worked on -/
structure Now (B : Nat) (w : World) (b : Nat) (h : Hp) (x : Nat → Value) : Prop where
  blk : w.heap[b]? = some (.cells #[.int .u64 h.base, .int .i64 h.cap, .int .i64 h.to, .bool h.cycle, .int .i64 h.scan, x 0, x 1, x 2, x 3, x 4] 100 (0, 0))
  own : HOwn B w h x
  far : ∀ j, j < 5 → ∀ c, (x j).ownBlock = some c → c ≠ b
  new : B ≤ b
def toOf (h : Hp) (part : Int) (a n : Nat) : Int := (ptrTo (addrL (layH (movedH h part a n)) 1 h.low.length).1).1
def CarryPost (B : Nat) (w : World) (b : Nat) (h : Hp) (p a n : Nat) (e : Ending) (w' : World) : Prop :=
  ∃ x', e = .returned (.int .u64 (toOf h (p + 1) a n)) ∧ Below B w w' ∧ Now B w' b (withH (movedH h (p + 1) a n) (p + 1) ((zr (lsH h p) a n).set a (toOf h (p + 1) a n))) x'
theorem wp_clear_run {P : Program} (w : World) {o : Oper} {a : Act} {K : Act → World → Prop} {Q : Exit → Act → World → Prop} (s : Operand) (t : TypeId)
    (ho : o.op = .call { callee := .builtin .clear, args := #[s], argTypes := #[t] }) (vs : Value) (hs : a.eval s = vs)
    (w' : World) (hr : (Builtin.clear_ #[t] o.type #[vs]).run P w = .ok (.tuple #[]) w') (h : K (a.put o.dst (.tuple #[])) w') : o.wp P a w K Q := by
  unfold Oper.wp execOp
  simp only [ho, resolve, invoke, builtin, Sem.run_bind, Sem.run_pure, Result.andThen_ok, List.map_toArray, List.map_cons, List.map_nil, hs, hr]
  exact h
theorem wpList_clear_run {P : Program} (w : World) {ops : Array Oper} {rest : List Oper} {o : Oper} {a : Act} {Q : Exit → Act → World → Prop} (hgd : o.guard = none) (s : Operand) (t : TypeId)
    (ho : o.op = .call { callee := .builtin .clear, args := #[s], argTypes := #[t] }) (vs : Value) (hs : a.eval s = vs)
    (w' : World) (hr : (Builtin.clear_ #[t] o.type #[vs]).run P w = .ok (.tuple #[]) w') (h : wpList P ops Q rest (a.put o.dst (.tuple #[])) w') : wpList P ops Q (o :: rest) a w :=
  wpList_plain hgd fun _ hK => wp_clear_run w s t ho vs hs w' hr (hK _ _ h)
theorem setCells_heap {b c : Nat} (hc : c ≠ b) : ∀ (vs : List Value) (o : Nat) (w : World), (w.setCells b o vs).heap[c]? = w.heap[c]?
  | [], _, _ => rfl
  | v :: r, o, w => by
    show ((w.setCell ⟨b, o, none⟩ v).setCells b (o + 1) r).heap[c]? = _
    rw [setCells_heap hc r]
    exact Below.heap_setCell _ _ _ _ hc
theorem setCells_size (b : Nat) : ∀ (vs : List Value) (o : Nat) (w : World), (w.setCells b o vs).heap.size = w.heap.size
  | [], _, _ => rfl
  | v :: r, o, w => by
    show ((w.setCell ⟨b, o, none⟩ v).setCells b (o + 1) r).heap.size = _
    rw [setCells_size b r]
    simp [World.setCell]
theorem setCells_below {B b : Nat} (hb : B ≤ b) : ∀ (vs : List Value) (o : Nat) (w0 w : World), Below B w0 w → Below B w0 (w.setCells b o vs)
  | [], _, _, _, h => h
  | v :: r, o, w0, w, h => setCells_below hb r (o + 1) w0 _ (h.setCell hb _)
/-- a row whose cells are made nought, one behind the other -/
theorem own_zeros {B g len cap : Nat} {L : List Int} (a : Nat) : ∀ (n k : Nat) (w : World), a + k + n ≤ len → w.ownsRow B 24 1 (.slice (some ⟨g, 0, none⟩) len cap) len (nums .u64 (zr L a k)) →
    (w.setCells g (a + k) (List.replicate n (.int .u64 0))).ownsRow B 24 1 (.slice (some ⟨g, 0, none⟩) len cap) len (nums .u64 (zr L a (k + n)))
  | 0, k, w, _, h => h
  | n + 1, k, w, hl, h => by
    have h1 := (h.stored (a + k) (.int .u64 0)).1
    have h2 : (nums .u64 (zr L a k)).set (a + k) (.int .u64 0) = nums .u64 (zr L a (k + 1)) := by rw [zr, nums_set]
    rw [h2] at h1
    have := own_zeros a n (k + 1) _ (by omega) h1
    rw [show k + 1 + n = k + (n + 1) by omega] at this
    exact this
theorem carry_walk (w : World) (B b : Nat) (h : Hp) (x : Nat → Value) (hN : Now B w b h x) (hB : B ≤ w.heap.size) (hh : h.ok) (p a n : Nat) (hp : p = 2 ∨ p = 3) (hn0 : 0 < n) (hn : n ≤ 1000) (hroom : (n : Int) ≤ roomL (layH h))
    (g cap : Nat) (hx : x p = .slice (some ⟨g, 0, none⟩) (lsH h p).length cap) (han : a + n ≤ (lsH h p).length) (c' : Nat) :
    Calls Try.prog 62 #[.pointer (some ⟨b, 0, none⟩), .slice (some ⟨g, a, none⟩) n c'] w (CarryPost B w b h p a n) := by
  obtain ⟨iU, hiU, hzU, hsU, hbU⟩ := info_parts infoU
  have hl0 : (lsH h 0).length ≤ 1000000 := lsH_len hh 0
  obtain ⟨v1, w1, hr1, ho1, hg1, hn1⟩ := run_appendZ (P := Try.prog) (w := w) (T := 28) (tI := 3) (ty := 28) Try.underlying28 Try.underlying3 hiU hzU rfl rfl hsU hbU (hN.own.own 0 (by omega)) hB hn0 (by omega) .i64
  obtain ⟨a0, q0, e0⟩ := own_form (hN.own.own 0 (by omega))
  have b0 : w.cell? ⟨b, 5, none⟩ = some (x 0) := by rw [cell_of_row _ _ _ _ _ _ hN.blk]; rfl
  have f0 : w.frozen? ⟨b, 5, none⟩ = false := frz_of hN.blk
  have hbw := heap_lt hN.blk
  have hne : some b ≠ (x 0).ownBlock := fun e => hN.far 0 (by omega) b e.symm rfl
  have c1 := (hg1.cell_far ⟨b, 5, none⟩ hbw hne).trans b0
  have f1 := (hg1.frozen_far ⟨b, 5, none⟩ hbw hne).trans f0
  rw [e0] at hr1 b0 c1
  have hlx : (nums .u64 (lsH h 0)).length = (lsH h 0).length := by simp [nums]
  rcases ho1.2 with ⟨_, hbad⟩ | ⟨g0, q1, cur, hv1, hg0B, hcur, hq1, hqm, hcsz, htake⟩
  · omega
  subst hv1
  have hq1' : ¬ q1 = (lsH h 0).length := by omega
  have hg0b : g0 ≠ b := by
    intro e
    rcases hn1 with e1 | ⟨_, e1⟩
    · exact hne (by rw [← e1, e]; rfl)
    · have := (e1.lt g0 rfl).1; omega
  have hgb : g ≠ b := hN.far p (by omega) g (by rw [hx]; rfl)
  have hgw : g < w.heap.size := ((hN.own.own p (by omega)).lt g (by rw [hx]; rfl)).2
  have hgx : some g ≠ (x 0).ownBlock := fun e => hN.own.apart 0 p (by omega) (by omega) g e.symm (by rw [hx]; rfl)
  have hgg0 : g ≠ g0 := by
    intro e
    rcases hn1 with e1 | ⟨_, e1⟩
    · exact hgx (by rw [← e1, e]; rfl)
    · have := (e1.lt g0 rfl).1; omega
  obtain ⟨w2, hw2⟩ : ∃ w2, w2 = w1.setCell ⟨b, 5, none⟩ (.slice (some ⟨g0, 0, none⟩) ((lsH h 0).length + n) q1) := ⟨_, rfl⟩
  have hcur2 : w2.heap[g0]? = some (.cells cur 24 (0, 0)) := by rw [hw2, Below.heap_setCell _ _ _ _ hg0b]; exact hcur
  have hgk : ∀ c, c ≠ b → c < w.heap.size → some c ≠ (x 0).ownBlock → w2.heap[c]? = w.heap[c]? := fun c h1 h2 h3 => by
    rw [hw2, Below.heap_setCell _ _ _ _ h1, hg1.block c h2 h3]
  have hblk2 : w2.heap[b]? = some (.cells #[.int .u64 h.base, .int .i64 h.cap, .int .i64 h.to, .bool h.cycle, .int .i64 h.scan, .slice (some ⟨g0, 0, none⟩) ((lsH h 0).length + n) q1, x 1, x 2, x 3, x 4] 100 (0, 0)) := by
    have := (hg1.block b hbw hne).trans hN.blk
    rw [hw2]
    simp [World.setCell, Array.getElem?_modify, this]
  have hcell2 : w2.cell? ⟨b, 5, none⟩ = some (.slice (some ⟨g0, 0, none⟩) ((lsH h 0).length + n) q1) := by rw [cell_of_row _ _ _ _ _ _ hblk2]; rfl
  have hown2 : w2.ownsRow B 24 1 (x p) (lsH h p).length (nums .u64 (lsH h p)) := owns_block (hN.own.own p (by omega)) fun c hc => by
    rw [hx] at hc
    cases hc
    exact hgk g hgb hgw hgx
  obtain ⟨cs, hcs⟩ : ∃ cs, cs = nums .u64 (((lsH h p).take (a + n)).drop a) := ⟨_, rfl⟩
  have hcl : cs.length = n := by rw [hcs]; simp [nums]; omega
  have hsrc : ∀ j v, cs[j]? = some v → w2.cell? ((⟨g, a, none⟩ : Addr).add j) = some v := by
    intro j v hv
    have hj : j < n := by rw [← hcl]; exact (List.getElem?_eq_some_iff.1 hv).1
    rw [hx] at hown2
    have := hown2.cellAt (a + j) (by omega)
    rw [Addr.add_lit, this]
    rw [hcs] at hv
    simp only [nums] at hv ⊢
    rw [← hv]
    simp [List.getElem?_take, show a + j < a + n by omega]
  obtain ⟨w3, hw3⟩ : ∃ w3, w3 = w2.setRow g0 (cur.toList.take (lsH h 0).length ++ (cs ++ cur.toList.drop ((lsH h 0).length + cs.length))).toArray := ⟨_, rfl⟩
  have hfit : (lsH h 0).length + cs.length ≤ cur.size := by rw [hcl]; simp at hcsz; omega
  have hone : ∀ v ∈ cs, v.oneCell' = true := by
    intro v hv
    rw [hcs] at hv
    obtain ⟨_, _, rfl⟩ := List.mem_map.1 hv
    rfl
  have hmin : cs.length = Nat.min n n := by rw [hcl]; simp
  have hsz1 : (Try.prog.info? 24).map (·.size) = some 1 := by rw [hiU]; simp [hsU]
  have hblk3 : w3.heap[b]? = some (.cells #[.int .u64 h.base, .int .i64 h.cap, .int .i64 h.to, .bool h.cycle, .int .i64 h.scan, .slice (some ⟨g0, 0, none⟩) ((lsH h 0).length + n) q1, x 1, x 2, x 3, x 4] 100 (0, 0)) := by
    rw [hw3, setRow_other _ _ _ _ hg0b.symm]; exact hblk2
  have hk3 : ∀ c, c ≠ b → c ≠ g0 → c < w.heap.size → some c ≠ (x 0).ownBlock → w3.heap[c]? = w.heap[c]? := fun c h1 h2 h3 h4 => by
    rw [hw3, setRow_other _ _ _ _ h2]; exact hgk c h1 h3 h4
  have hs12 : w.heap.size ≤ w3.heap.size := by
    have := hg1.size
    have e2 : w2.heap.size = w1.heap.size := by rw [hw2]; simp [World.setCell]
    have e3 : w3.heap.size = w2.heap.size := by rw [hw3]; simp [World.setRow]
    omega
  have hl3 : lsH (movedH h (p + 1) a n) 0 = lsH h 0 ++ ((lsH h p).take (a + n)).drop a := by
    rcases hp with rfl | rfl <;> rfl
  have hl3' : ∀ j, j ≠ 0 → lsH (movedH h (p + 1) a n) j = lsH h j := fun j hj => by
    unfold lsH movedH
    simp [hj]
  have hown3 : ∀ j, j < 5 → w3.ownsRow B 24 1 (if j = 0 then .slice (some ⟨g0, 0, none⟩) ((lsH h 0).length + n) q1 else x j) (lsH (movedH h (p + 1) a n) j).length (nums .u64 (lsH (movedH h (p + 1) a n) j)) := by
    intro j hj
    by_cases hj0 : j = 0
    · subst hj0
      rw [if_pos rfl, hl3]
      have hd : (((lsH h p).take (a + n)).drop a).length = n := by simp; omega
      refine ⟨by simp [nums], .inr ⟨g0, q1, (cur.toList.take (lsH h 0).length ++ (cs ++ cur.toList.drop ((lsH h 0).length + cs.length))).toArray, ?_, hg0B, ?_, ?_, hqm, ?_, ?_⟩⟩
      · rw [List.length_append, hd]
      · rw [hw3]; exact setRow_heap _ _ _ _ _ _ hcur2
      · rw [List.length_append, hd]; exact hq1
      · simp [hcl] at hcsz hfit ⊢; omega
      · have ht : cur.toList.take ((lsH h 0).length) = nums .u64 (lsH h 0) := by
          have := congrArg (List.take (lsH h 0).length) htake
          rw [List.take_take, Nat.min_eq_left (by omega)] at this
          rw [this, List.take_left' hlx]
        rw [List.length_append, hd, ht]
        simp only [Nat.mul_one]
        rw [← List.append_assoc, List.take_left' (by simp [hlx, hcl]), hcs]
        simp [nums]
    · rw [if_neg hj0, hl3' j hj0]
      have ho := hN.own.own j hj
      exact owns_block ho fun c hc => hk3 c (hN.far j hj c hc) (fun e => by
        rcases hn1 with e1 | ⟨_, e1⟩
        · exact hN.own.apart 0 j (by omega) hj c (by rw [← e1, e]; rfl) hc
        · have h1 := (e1.lt g0 rfl).1
          have h2 := (ho.lt c hc).2
          omega) (ho.lt c hc).2 (fun e => hN.own.apart 0 j (by omega) hj c e.symm hc)
  have hg0x : ∀ j, 0 < j → j < 5 → (x j).ownBlock ≠ some g0 := fun j h0 hj hc => by
    rcases hn1 with e1 | ⟨_, e1⟩
    · exact hN.own.apart 0 j h0 hj g0 (by rw [← e1]; rfl) hc
    · have h1 := (e1.lt g0 rfl).1
      have h2 := ((hN.own.own j hj).lt g0 hc).2
      omega
  have hgj : ∀ j, j < 5 → j ≠ p → (x j).ownBlock ≠ some g := fun j hj hne hc => by
    have hgp : (x p).ownBlock = some g := by rw [hx]; rfl
    rcases Nat.lt_or_gt_of_ne hne with h1 | h1
    · exact hN.own.apart j p h1 (by omega) g hc hgp
    · exact hN.own.apart p j h1 hj g hgp hc
  have hgB : B ≤ g := ((hN.own.own p (by omega)).lt g (by rw [hx]; rfl)).1
  have hopw := hN.own.own p (by omega)
  rw [hx] at hopw
  have hrow : ∀ W : World, W.heap[g]? = w.heap[g]? → W.ownsRow B 24 1 (.slice (some ⟨g, 0, none⟩) (lsH h p).length cap) (lsH h p).length (nums .u64 (lsH h p)) := fun W hW => owns_block hopw fun c hc => by
    cases hc
    exact hW
  have hlp : (nums .u64 (lsH h p)).length = (lsH h p).length := by simp [nums]
  have hcells : ∀ W : World, W.heap[g]? = w.heap[g]? → (∀ j, j < n → (W.cell? ⟨g, a + j, none⟩).isSome = true) ∧ (∀ j, j < n → W.frozen? ⟨g, a + j, none⟩ = false) := fun W hW => ⟨fun j hj => by
    rw [(hrow W hW).cellAt (a + j) (by omega)]
    simp [hlp]; omega, fun j hj => (hrow W hW).frozenAt _⟩
  have hg3 : w3.heap[g]? = w.heap[g]? := hk3 g hgb hgg0 hgw hgx
  have HN := Lib.hid hN
  have HO := Lib.hid ho1
  have HG := Lib.hid hg1
  have HW2 := Lib.hid hw2
  have HW3 := Lib.hid hw3
  have HO3 := Lib.hid hown3
  have d0 : w3.cell? ⟨b, 0, none⟩ = some (Value.int .u64 h.base) := by rw [cell_of_row _ _ _ _ _ _ hblk3]; rfl
  have d1 : w3.cell? ⟨b, 1, none⟩ = some (Value.int .i64 h.cap) := by rw [cell_of_row _ _ _ _ _ _ hblk3]; rfl
  have d2 : w3.cell? ⟨b, 2, none⟩ = some (Value.int .i64 h.to) := by rw [cell_of_row _ _ _ _ _ _ hblk3]; rfl
  have d3 : w3.cell? ⟨b, 3, none⟩ = some (Value.bool h.cycle) := by rw [cell_of_row _ _ _ _ _ _ hblk3]; rfl
  have d4 : w3.cell? ⟨b, 4, none⟩ = some (Value.int .i64 h.scan) := by rw [cell_of_row _ _ _ _ _ _ hblk3]; rfl
  have d5 : w3.cell? ⟨b, 5, none⟩ = some (Value.slice (some ⟨g0, 0, none⟩) ((lsH h 0).length + n) q1) := by rw [cell_of_row _ _ _ _ _ _ hblk3]; rfl
  have d6 : w3.cell? ⟨b, 6, none⟩ = some (x 1) := by rw [cell_of_row _ _ _ _ _ _ hblk3]; rfl
  have d7 : w3.cell? ⟨b, 7, none⟩ = some (x 2) := by rw [cell_of_row _ _ _ _ _ _ hblk3]; rfl
  have d8 : w3.cell? ⟨b, 8, none⟩ = some (x 3) := by rw [cell_of_row _ _ _ _ _ _ hblk3]; rfl
  have d9 : w3.cell? ⟨b, 9, none⟩ = some (x 4) := by rw [cell_of_row _ _ _ _ _ _ hblk3]; rfl
  have hm3 : (movedH h (p + 1) a n).ok := moved_ok hh (by rcases hp with rfl | rfl <;> exact han) hroom hn0
  clear hN ho1 hg1 hw2 hw3 hown3
  go_enter Try.func62, Try.ntmps62
  go_wp2_with (first
    | (at_builtin; refine Lib.wpList_append_run _ rfl _ _ 28 3 rfl _ _ rfl rfl _ _ hr1 ?_)
    | (rw [← HW2.out]; refine wpList_copy_own rfl _ _ 28 28 rfl 24 Try.underlying28 hsz1 g0 (lsH h 0).length n (q1 - (lsH h 0).length) ⟨g, a, none⟩ n c' rfl rfl cur 24 hcur2 cs hmin hsrc hfit hone ?_; rw [← HW3.out])
    | (go_at_call 54; refine (Layout_calls (h := movedH h (p + 1) a n) (x := fun j => if j = 0 then .slice (some ⟨g0, 0, none⟩) ((lsH h 0).length + n) q1 else x j) (G := fun c => B ≤ c ∧ c < w3.heap.size) (fun c hc => hc.2) (fun j hj => own_rd (HO3.out j hj) (fun c h1 h2 => ⟨h1, h2⟩))).mono ?_; rintro e w4 ⟨rfl, hb4⟩; have HB4 := Lib.hid hb4; clear hb4)
    | (go_at_call 39; refine (addrL_calls hm3.lay _ _ _).mono ?_; rintro e w5 ⟨rfl, hb5⟩; have hg5 : w5.heap[g]? = w.heap[g]? := (hb5.block g (by have := HB4.out.size; omega)).trans ((HB4.out.block g (by omega)).trans hg3); have hs5 : w3.heap.size ≤ w5.heap.size := Nat.le_trans HB4.out.size hb5.size; have HB5 := Lib.hid hb5; clear hb5; obtain ⟨w6, hw6⟩ : ∃ w6, w6 = w5.setCells g a (List.replicate n (.int .u64 0)) := ⟨_, rfl⟩; have hs6 : w6.heap.size = w5.heap.size := by { rw [hw6]; exact setCells_size _ _ _ _ }; have c6 : w6.cell? ⟨g, a, none⟩ = some (.int .u64 0) := by { rw [hw6]; have := World.cell?_setCells_in g (List.replicate n (Value.int .u64 0)) a w5 (by simpa using (hcells w5 hg5).1) 0 (by simpa using hn0); simpa using this }; have f6 : w6.frozen? ⟨g, a, none⟩ = false := by { rw [hw6, World.frozen?_setCells]; exact (hcells w5 hg5).2 0 hn0 }; have HW6 := Lib.hid hw6; clear hw6)
    | (refine wpList_clear_run _ rfl _ 28 rfl _ rfl _ (Lib.run_clear_slice _ _ 24 _ (.int .u64 0) Try.underlying28 (run_zeroValue hiU hzU) rfl rfl g a n c' hn0 (hcells w5 hg5).1 (hcells w5 hg5).2) ?_; rw [← HW6.out])
    | (go_at_call 40; refine (ptrTo_calls addr_u _).mono ?_; rintro e w7 ⟨rfl, hb7⟩; have c7 := (hb7.cell (p := ⟨g, a, none⟩) (by show g < w6.heap.size; omega)).trans c6; have f7 := (hb7.frozen (p := ⟨g, a, none⟩) (by show g < w6.heap.size; omega)).trans f6; have HB7 := Lib.hid hb7; clear hb7))
  go_ret
  have hbel3 : Below B w w3 := by
    rw [HW3.out, HW2.out]
    exact Go.below_setRow (Below.setCell (p := ⟨b, 5, none⟩) ((Below.refl B w).grown HG.out hB (fun k hk => ((HN.out.own.own 0 (by omega)).lt k hk).1)) HN.out.new _) hg0B _
  have hB3 : B ≤ w3.heap.size := by omega
  have hbel5 : Below B w w5 := (hbel3.trans (HB4.out.mono hB3)).trans (HB5.out.mono (by have := HB4.out.size; omega))
  have hbel6 : Below B w w6 := by rw [HW6.out]; exact setCells_below hgB _ _ _ _ hbel5
  have hbel7 : Below B w w7 := hbel6.trans (HB7.out.mono (by omega))
  have hs4 := HB4.out.size
  have hs45 := HB5.out.size
  have h37 : ∀ (c : Nat) (u : Value), c ≠ g → c < w3.heap.size → (w7.setCell ⟨g, a, none⟩ u).heap[c]? = w3.heap[c]? := fun c u h1 h2 => by
    rw [Below.heap_setCell _ _ _ _ h1, HB7.out.block c (by omega), HW6.out, setCells_heap h1, HB5.out.block c (by omega), HB4.out.block c h2]
  have hg5 : w5.heap[g]? = w.heap[g]? := (HB5.out.block g (by omega)).trans ((HB4.out.block g (by omega)).trans hg3)
  have hrow6 := own_zeros (L := lsH h p) a n 0 w5 (by omega) (hrow w5 hg5)
  have e6 : w5.setCells g (a + 0) (List.replicate n (.int .u64 0)) = w6 := HW6.out.symm
  rw [e6, Nat.zero_add] at hrow6
  have hrow7 := owns_block (w' := w7) hrow6 fun c hc => by
    cases hc
    exact HB7.out.block g (by omega)
  have hrow8 := (hrow7.stored a (.int .u64 (toOf h (p + 1) a n))).1
  rw [← nums_set] at hrow8
  refine ⟨fun j => if j = 0 then .slice (some ⟨g0, 0, none⟩) ((lsH h 0).length + n) q1 else x j, rfl, hbel7.setCell hgB _, ?_, ⟨?_, ?_⟩, ?_, HN.out.new⟩
  · rw [h37 b _ (fun e => hgb e.symm) (by omega), hblk3]
    rcases hp with rfl | rfl <;> rfl
  · intro j hj
    by_cases hjp : j = p
    · subst hjp
      have e1 : lsH (withH (movedH h (j + 1) a n) (j + 1) ((zr (lsH h j) a n).set a (toOf h (j + 1) a n))) j = (zr (lsH h j) a n).set a (toOf h (j + 1) a n) := by
        rcases hp with rfl | rfl <;> rfl
      rw [e1, if_neg (by omega), hx, List.length_set, zr_len]
      exact hrow8
    · have e1 : lsH (withH (movedH h (p + 1) a n) (p + 1) ((zr (lsH h p) a n).set a (toOf h (p + 1) a n))) j = lsH (movedH h (p + 1) a n) j := by
        have : j = 0 ∨ j = 1 ∨ j = 2 ∨ j = 3 ∨ j = 4 := by omega
        rcases hp with rfl | rfl <;> rcases this with rfl | rfl | rfl | rfl | rfl <;> first | rfl | exact (hjp rfl).elim
      rw [e1]
      have ho := HO3.out j hj
      refine owns_block ho fun c hc => h37 c _ (fun e => ?_) (ho.lt c hc).2
      subst e
      by_cases h0 : j = 0
      · rw [if_pos h0] at hc
        cases hc
        exact hgg0 rfl
      · rw [if_neg h0] at hc
        exact hgj j hj hjp hc
  · intro i j hij hj c hc
    rw [if_neg (show ¬ j = 0 by omega)]
    by_cases h0 : i = 0
    · rw [if_pos h0] at hc
      cases hc
      exact hg0x j (by omega) hj
    · rw [if_neg h0] at hc
      exact HN.out.own.apart i j hij hj c hc
  · intro j hj c hc
    by_cases h0 : j = 0
    · rw [if_pos h0] at hc
      cases hc
      exact hg0b
    · rw [if_neg h0] at hc
      exact HN.out.far j hj c hc
end Vm
