/-
  heap.Own, walked by hand: all lists of what it tells are new, and apart.
-/
import Derived.Test.YtfplljcicihneaaEa
namespace Vm
open Go Go.Proofs Go.RowKit
set_option maxHeartbeats 4000000
set_option maxRecDepth 100000
set_option linter.unusedSimpArgs false
set_option linter.unusedVariables false
def lsH (h : Hp) (j : Nat) : List Int := if j = 0 then h.low else if j = 1 then h.high else if j = 2 then h.old else if j = 3 then h.far else h.roots
structure OwSt (w : World) (b : Nat) (el : Nat → Option Obj) (T : TypeId) (hd src : Nat → Value) (L : Nat → List Int) (k : Nat) (xs : Nat → Value) (wr : World) : Prop where
  below : Below w.heap.size w wr
  new : w.heap.size ≤ b
  blk : wr.heap[b]? = some (.cells #[hd 0, hd 1, hd 2, hd 3, hd 4, xs 0, xs 1, xs 2, xs 3, src 4] T (0, 0))
  elder : ∀ c, w.heap.size ≤ c → c < b → wr.heap[c]? = el c
  rest : ∀ j, k ≤ j → xs j = src j
  own : ∀ j, j < k → wr.ownsRow w.heap.size 24 1 (xs j) (L j).length (nums .u64 (L j))
  newer : ∀ j, j < k → ∀ c, (xs j).ownBlock = some c → b < c
  apart : ∀ i j, i < j → j < k → ∀ c, (xs i).ownBlock = some c → (xs j).ownBlock ≠ some c
theorem OwSt.next {w wr w1 w6 : World} {b : Nat} {el : Nat → Option Obj} {T : TypeId} {hd src : Nat → Value} {L : Nat → List Int} {k : Nat} {xs : Nat → Value} (h : OwSt w b el T hd src L k xs wr) (hk : k < 4)
    (hb : Below wr.heap.size wr w1) (hg : w1.grownBy w6 none) {v : Value} (ho : w6.ownsRow w.heap.size 24 1 v (L k).length (nums .u64 (L k))) (hn : ∀ c, v.ownBlock = some c → w1.heap.size ≤ c) :
    OwSt w b el T hd src L (k + 1) (fun j => if j = k then v else xs j) (w6.setCell ⟨b, 5 + k, none⟩ v) := by
  have hbl : b < wr.heap.size := heap_lt h.blk
  have hs1 := hb.size
  have hs0 := h.below.size
  have hs2 := hg.size
  have keep : ∀ c, c < wr.heap.size → c ≠ b → (w6.setCell ⟨b, 5 + k, none⟩ v).heap[c]? = wr.heap[c]? := fun c hc hne => by
    rw [Below.heap_setCell _ _ _ _ hne, hg.block c (by omega) (by simp), hb.block c hc]
  have h6 : w6.heap[b]? = some (.cells #[hd 0, hd 1, hd 2, hd 3, hd 4, xs 0, xs 1, xs 2, xs 3, src 4] T (0, 0)) := by
    rw [hg.block b (by omega) (by simp), hb.block b hbl, h.blk]
  refine ⟨((h.below.trans (hb.mono hs0)).grown hg (by omega) (by simp)).setCell h.new _, h.new, ?_, ?_, ?_, ?_, ?_, ?_⟩
  · have : k = 0 ∨ k = 1 ∨ k = 2 ∨ k = 3 := by omega
    rcases this with rfl | rfl | rfl | rfl <;> simp [World.setCell, Array.getElem?_modify, h6]
  · intro c h1 h2
    rw [keep c (by omega) (by omega)]
    exact h.elder c h1 h2
  · intro j hj
    rw [if_neg (by omega)]
    exact h.rest j (by omega)
  · intro j hj
    by_cases hjk : j = k
    · subst hjk
      rw [if_pos rfl]
      exact owns_block ho fun c hc => Below.heap_setCell _ _ _ _ (by have := hn c hc; show c ≠ b; omega)
    · rw [if_neg hjk]
      have hoj := h.own j (by omega)
      exact owns_block hoj fun c hc => keep c (hoj.lt c hc).2 (by have := h.newer j (by omega) c hc; omega)
  · intro j hj c hc
    by_cases hjk : j = k
    · rw [if_pos hjk] at hc
      have := hn c hc
      omega
    · rw [if_neg hjk] at hc
      exact h.newer j (by omega) c hc
  · intro i j hij hj c hc
    rw [if_neg (by omega)] at hc
    by_cases hjk : j = k
    · rw [if_pos hjk]
      intro e
      have := hn c e
      have := ((h.own i (by omega)).lt c hc).2
      omega
    · rw [if_neg hjk]
      exact h.apart i j hij (by omega) c hc
structure HOwn (B : Nat) (w : World) (h : Hp) (x : Nat → Value) : Prop where
  own : ∀ j, j < 5 → w.ownsRow B 24 1 (x j) (lsH h j).length (nums .u64 (lsH h j))
  apart : ∀ i j, i < j → j < 5 → ∀ c, (x i).ownBlock = some c → (x j).ownBlock ≠ some c
def hpA (h : Hp) (x : Nat → Value) : Value := .agg #[.int .u64 h.base, .int .i64 h.cap, .int .i64 h.to, .bool h.cycle, .int .i64 h.scan, x 0, x 1, x 2, x 3, x 4]
def HOwnPost (w : World) (h : Hp) (e : Ending) (w' : World) : Prop := ∃ x, e = .returned (hpA h x) ∧ Below w.heap.size w w' ∧ HOwn w.heap.size w' h x
theorem lsH_len {h : Hp} (hh : h.ok) (k : Nat) : (lsH h k).length ≤ 1000000 := by
  unfold lsH
  split
  · exact hh.low
  split
  · exact hh.high
  split
  · exact hh.old
  split
  · exact hh.far
  · exact hh.roots
theorem part_walk' (w : World) (b k : Nat) (hk : k < 4) :
    Calls Try.prog 90 #[.pointer (some ⟨b, 0, none⟩), .int .i64 ((k + 1 : Nat) : Int)] w fun e w' => e = .returned (.pointer (some ⟨b, 5 + k, none⟩)) ∧ Below w.heap.size w w' := by
  have := part_walk w b (k + 1) (by omega)
  rw [show 4 + (k + 1) = 5 + k by omega] at this
  exact this
theorem Own_walk (w : World) (G : Nat → Prop) (hG : ∀ b, G b → b < w.heap.size) (h : Hp) (hh : h.ok) (src : Nat → Value) (hs : ∀ j, j < 5 → Rd w G (.sl ((lsH h j).map vu)) (src j)) :
    Calls Try.prog 56 #[hpA h src] w (HOwnPost w h) := by
  have HS := Lib.hid hs
  have HH := Lib.hid hh
  clear hs hh
  unfold hpA
  go_enter Try.func56, Try.ntmps56
  go_wp2
  go_loopw [4] (fun i wr => ∃ (k : Nat) (xs : Nat → Value), i = .int .i64 ((k + 1 : Nat) : Int) ∧ k ≤ 4 ∧ Hid (OwSt w (w.heap.size + 2) (fun c => if c = w.heap.size then some (.cells #[Value.int IntKind.u64 h.base, Value.int IntKind.i64 h.cap, Value.int IntKind.i64 h.to, Value.bool h.cycle, Value.int IntKind.i64 h.scan, src 0, src 1, src 2, src 3, src 4] 31 (0, 0)) else some (.cells #[Value.int IntKind.u64 0, Value.int IntKind.i64 0, Value.int IntKind.i64 0, Value.bool false, Value.int IntKind.i64 0, Value.slice none 0 0, Value.slice none 0 0, Value.slice none 0 0, Value.slice none 0 0, Value.slice none 0 0] 31 (0, 0))) 142 (fun j => if j = 0 then .int .u64 h.base else if j = 1 then .int .i64 h.cap else if j = 2 then .int .i64 h.to else if j = 3 then .bool h.cycle else .int .i64 h.scan) src (lsH h) k xs wr))
    (fun i _ => 5 - (intOf i).toNat)
  case atStart =>
    refine ⟨0, src, rfl, by omega, Lib.hid ⟨(((Below.refl _ _).alloc (Nat.le_refl _) _).alloc (by simp) _).alloc (by simp; omega) _, by omega, ?_, ?_, fun _ _ => rfl, fun j hj => by omega, fun j hj => by omega, fun i j _ hj => by omega⟩⟩
    have := heap_alloc_new ((w.alloc (.cells #[Value.int IntKind.u64 h.base, Value.int IntKind.i64 h.cap, Value.int IntKind.i64 h.to, Value.bool h.cycle, Value.int IntKind.i64 h.scan, src 0, src 1, src 2, src 3, src 4] 31)).alloc (.cells #[Value.int IntKind.u64 0, Value.int IntKind.i64 0, Value.int IntKind.i64 0, Value.bool false, Value.int IntKind.i64 0, Value.slice none 0 0, Value.slice none 0 0, Value.slice none 0 0, Value.slice none 0 0, Value.slice none 0 0] 31)) (.cells #[Value.int IntKind.u64 h.base, Value.int IntKind.i64 h.cap, Value.int IntKind.i64 h.to, Value.bool h.cycle, Value.int IntKind.i64 h.scan, src 0, src 1, src 2, src 3, src 4] 142)
    · simpa using this
    · intro c h1 h2
      have : c = w.heap.size ∨ c = w.heap.size + 1 := by omega
      rcases this with rfl | rfl
      · rw [if_pos rfl, Below.heap_alloc _ _ _ (by simp; omega), Below.heap_alloc _ _ _ (by simp)]
        exact heap_alloc_new _ _
      · rw [if_neg (by omega), Below.heap_alloc _ _ _ (by simp)]
        have := heap_alloc_new (w.alloc (.cells #[Value.int IntKind.u64 h.base, Value.int IntKind.i64 h.cap, Value.int IntKind.i64 h.to, Value.bool h.cycle, Value.int IntKind.i64 h.scan, src 0, src 1, src 2, src 3, src 4] 31)) (.cells #[Value.int IntKind.u64 0, Value.int IntKind.i64 0, Value.int IntKind.i64 0, Value.bool false, Value.int IntKind.i64 0, Value.slice none 0 0, Value.slice none 0 0, Value.slice none 0 0, Value.slice none 0 0, Value.slice none 0 0] 31)
        simpa using this
  case round =>
    obtain ⟨k, xs, rfl, hk, HI⟩ := hrel
    have hsz := heap_lt HI.out.blk
    by_cases hlt : k < 4
    · have hle : ((k + 1 : Nat) : Int) ≤ 4 := by omega
      have c0 : wr.cell? ⟨w.heap.size + 2, 5 + k, none⟩ = some (src k) := by
        rw [cell_of_row _ _ _ _ _ _ HI.out.blk]
        have h3 : k = 0 ∨ k = 1 ∨ k = 2 ∨ k = 3 := by omega
        have hr := HI.out.rest k (Nat.le_refl _)
        rcases h3 with rfl | rfl | rfl | rfl <;> simp [← hr]
      have f0 : wr.frozen? ⟨w.heap.size + 2, 5 + k, none⟩ = false := frz_of HI.out.blk
      have hll : (lsH h k).length ≤ 1000000 := lsH_len HH.out k
      go_wp2_with (first
        | (go_at_call 90; refine (part_walk' _ _ _ hlt).mono ?_; rintro e w1 ⟨rfl, hb1⟩; have c1 := (hb1.cell (p := ⟨w.heap.size + 2, 5 + k, none⟩) (by exact hsz)).trans c0; have f1 := (hb1.frozen (p := ⟨w.heap.size + 2, 5 + k, none⟩) (by exact hsz)).trans f0; have HR1 := Lib.hid ((HS.out k (by omega)).keep (w' := w1) (fun b hb => by rw [hb1.block b (by have := hG b hb; have := HI.out.below.size; omega)]; exact HI.out.below.block b (hG b hb)) (fun _ h => h)); have HB1 := Lib.hid hb1; have hs1 := hb1.size; have hs0 := HI.out.below.size; clear hb1)
        | (at_builtin; refine wpList_appendO (B := w.heap.size) (n := 0) (xs := []) rfl _ _ _ rfl Try.underlying28 elU rfl rfl (World.ownsRow_nil _ _ _ _) (by omega) (l := (lsH h k).map vu) (Gy := G) HR1.out (by rw [ceU]; exact sizeOk_vi _) (by simp [lim]; omega) ?_))
      intro v6 w6 news6 hown6 hgrow hat6 hn6
      simp only [ceU] at hown6
      have hl6 : news6.length = (lsH h k).length := by have := hown6.1; simpa using this
      rw [news_nums hn6 hl6] at hown6
      try simp only [List.length_map, Nat.zero_add, List.nil_append] at hown6
      obtain ⟨a6, q6, hv6⟩ := own_form hown6
      subst hv6
      have hnone : (Value.slice none 0 0).ownBlock = none := rfl
      rw [hnone] at hgrow
      have c6 := (hgrow.cell_far ⟨w.heap.size + 2, 5 + k, none⟩ (by show w.heap.size + 2 < _; omega) (by simp)).trans c1
      have f6 := (hgrow.frozen_far ⟨w.heap.size + 2, 5 + k, none⟩ (by show w.heap.size + 2 < _; omega) (by simp)).trans f1
      have hnew : ∀ c, (Value.slice a6 (lsH h k).length q6).ownBlock = some c → w1.heap.size ≤ c := by
        intro c hc
        rcases hat6 with e | ⟨_, e⟩
        · rw [e] at hc; cases hc
        · exact (e.lt c hc).1
      have HN := Lib.hid (HI.out.next hlt HB1.out hgrow hown6 hnew)
      clear hown6 hgrow hat6 hn6 hnew
      go_wp2
      go_roundw
      case rel => exact ⟨k + 1, _, by go_num, by omega, HN⟩
      case measure => simp [intOf]; omega
    · have hk4 : k = 4 := by omega
      subst hk4
      have b0 := HI.out.elder w.heap.size (by omega) (by omega)
      rw [if_pos rfl] at b0
      have b1 := HI.out.elder (w.heap.size + 1) (by omega) (by omega)
      rw [if_neg (by omega)] at b1
      have c9 : wr.cell? ⟨w.heap.size, 9, none⟩ = some (src 4) := by rw [cell_of_row _ _ _ _ _ _ b0]; rfl
      have hll : (lsH h 4).length ≤ 1000000 := lsH_len HH.out 4
      have HR1 := Lib.hid ((HS.out 4 (by omega)).keep (w' := wr) (fun b hb => HI.out.below.block b (hG b hb)) (fun _ h => h))
      have hs0 := HI.out.below.size
      go_wp2_with (at_builtin; refine wpList_appendO (B := w.heap.size) (n := 0) (xs := []) rfl _ _ _ rfl Try.underlying28 elU rfl rfl (World.ownsRow_nil _ _ _ _) (by omega) (l := (lsH h 4).map vu) (Gy := G) HR1.out (by rw [ceU]; exact sizeOk_vi _) (by simp [lim]; omega) ?_)
      intro v6 w6 news6 hown6 hgrow hat6 hn6
      simp only [ceU] at hown6
      have hl6 : news6.length = (lsH h 4).length := by have := hown6.1; simpa using this
      rw [news_nums hn6 hl6] at hown6
      try simp only [List.length_map, Nat.zero_add, List.nil_append] at hown6
      obtain ⟨a6, q6, hv6⟩ := own_form hown6
      subst hv6
      have hnone : (Value.slice none 0 0).ownBlock = none := rfl
      rw [hnone] at hgrow
      obtain ⟨a0', q0', e0⟩ := own_form (HI.out.own 0 (by omega))
      obtain ⟨a1', q1', e1⟩ := own_form (HI.out.own 1 (by omega))
      obtain ⟨a2', q2', e2⟩ := own_form (HI.out.own 2 (by omega))
      obtain ⟨a3', q3', e3⟩ := own_form (HI.out.own 3 (by omega))
      have blk : wr.heap[w.heap.size + 2]? = some (.cells #[Value.int IntKind.u64 h.base, Value.int IntKind.i64 h.cap, Value.int IntKind.i64 h.to, Value.bool h.cycle, Value.int IntKind.i64 h.scan, Value.slice a0' (lsH h 0).length q0', Value.slice a1' (lsH h 1).length q1', Value.slice a2' (lsH h 2).length q2', Value.slice a3' (lsH h 3).length q3', src 4] 142 (0, 0)) := by rw [← e0, ← e1, ← e2, ← e3]; exact HI.out.blk
      have blk6 := (hgrow.block (w.heap.size + 2) (by omega) (by simp)).trans blk
      have b61 := (hgrow.block (w.heap.size + 1) (by omega) (by simp)).trans b1
      have x9 : w6.cell? ⟨w.heap.size + 2, 9, none⟩ = some (src 4) := by rw [cell_of_row _ _ _ _ _ _ blk6]; rfl
      have y9 : w6.frozen? ⟨w.heap.size + 2, 9, none⟩ = false := frz_of blk6
      have blk7 : (w6.setCell ⟨w.heap.size + 2, 9, none⟩ (Value.slice a6 (lsH h 4).length q6)).heap[w.heap.size + 2]? = some (.cells #[Value.int IntKind.u64 h.base, Value.int IntKind.i64 h.cap, Value.int IntKind.i64 h.to, Value.bool h.cycle, Value.int IntKind.i64 h.scan, Value.slice a0' (lsH h 0).length q0', Value.slice a1' (lsH h 1).length q1', Value.slice a2' (lsH h 2).length q2', Value.slice a3' (lsH h 3).length q3', Value.slice a6 (lsH h 4).length q6] 142 (0, 0)) := by
        simp [World.setCell, Array.getElem?_modify, blk6]
      have b71 : (w6.setCell ⟨w.heap.size + 2, 9, none⟩ (Value.slice a6 (lsH h 4).length q6)).heap[w.heap.size + 1]? = some (.cells #[Value.int IntKind.u64 0, Value.int IntKind.i64 0, Value.int IntKind.i64 0, Value.bool false, Value.int IntKind.i64 0, Value.slice none 0 0, Value.slice none 0 0, Value.slice none 0 0, Value.slice none 0 0, Value.slice none 0 0] 31 (0, 0)) := by
        rw [Below.heap_setCell _ _ _ _ (by simp)]; exact b61
      have l0 : (w6.setCell ⟨w.heap.size + 2, 9, none⟩ (Value.slice a6 (lsH h 4).length q6)).cell? ⟨w.heap.size + 2, 0, none⟩ = some (Value.int IntKind.u64 h.base) := by rw [cell_of_row _ _ _ _ _ _ blk7]; rfl
      have l1 : (w6.setCell ⟨w.heap.size + 2, 9, none⟩ (Value.slice a6 (lsH h 4).length q6)).cell? ⟨w.heap.size + 2, 1, none⟩ = some (Value.int IntKind.i64 h.cap) := by rw [cell_of_row _ _ _ _ _ _ blk7]; rfl
      have l2 : (w6.setCell ⟨w.heap.size + 2, 9, none⟩ (Value.slice a6 (lsH h 4).length q6)).cell? ⟨w.heap.size + 2, 2, none⟩ = some (Value.int IntKind.i64 h.to) := by rw [cell_of_row _ _ _ _ _ _ blk7]; rfl
      have l3 : (w6.setCell ⟨w.heap.size + 2, 9, none⟩ (Value.slice a6 (lsH h 4).length q6)).cell? ⟨w.heap.size + 2, 3, none⟩ = some (Value.bool h.cycle) := by rw [cell_of_row _ _ _ _ _ _ blk7]; rfl
      have l4 : (w6.setCell ⟨w.heap.size + 2, 9, none⟩ (Value.slice a6 (lsH h 4).length q6)).cell? ⟨w.heap.size + 2, 4, none⟩ = some (Value.int IntKind.i64 h.scan) := by rw [cell_of_row _ _ _ _ _ _ blk7]; rfl
      have l5 : (w6.setCell ⟨w.heap.size + 2, 9, none⟩ (Value.slice a6 (lsH h 4).length q6)).cell? ⟨w.heap.size + 2, 5, none⟩ = some (Value.slice a0' (lsH h 0).length q0') := by rw [cell_of_row _ _ _ _ _ _ blk7]; rfl
      have l6 : (w6.setCell ⟨w.heap.size + 2, 9, none⟩ (Value.slice a6 (lsH h 4).length q6)).cell? ⟨w.heap.size + 2, 6, none⟩ = some (Value.slice a1' (lsH h 1).length q1') := by rw [cell_of_row _ _ _ _ _ _ blk7]; rfl
      have l7 : (w6.setCell ⟨w.heap.size + 2, 9, none⟩ (Value.slice a6 (lsH h 4).length q6)).cell? ⟨w.heap.size + 2, 7, none⟩ = some (Value.slice a2' (lsH h 2).length q2') := by rw [cell_of_row _ _ _ _ _ _ blk7]; rfl
      have l8 : (w6.setCell ⟨w.heap.size + 2, 9, none⟩ (Value.slice a6 (lsH h 4).length q6)).cell? ⟨w.heap.size + 2, 8, none⟩ = some (Value.slice a3' (lsH h 3).length q3') := by rw [cell_of_row _ _ _ _ _ _ blk7]; rfl
      have l9 : (w6.setCell ⟨w.heap.size + 2, 9, none⟩ (Value.slice a6 (lsH h 4).length q6)).cell? ⟨w.heap.size + 2, 9, none⟩ = some (Value.slice a6 (lsH h 4).length q6) := by rw [cell_of_row _ _ _ _ _ _ blk7]; rfl
      have m0 : (w6.setCell ⟨w.heap.size + 2, 9, none⟩ (Value.slice a6 (lsH h 4).length q6)).cell? ⟨w.heap.size + 1, 0, none⟩ = some (Value.int IntKind.u64 0) := by rw [cell_of_row _ _ _ _ _ _ b71]; rfl
      have r0 : (w6.setCell ⟨w.heap.size + 2, 9, none⟩ (Value.slice a6 (lsH h 4).length q6)).frozen? ⟨w.heap.size + 1, 0, none⟩ = false := frz_of b71
      have m1 : (w6.setCell ⟨w.heap.size + 2, 9, none⟩ (Value.slice a6 (lsH h 4).length q6)).cell? ⟨w.heap.size + 1, 1, none⟩ = some (Value.int IntKind.i64 0) := by rw [cell_of_row _ _ _ _ _ _ b71]; rfl
      have r1 : (w6.setCell ⟨w.heap.size + 2, 9, none⟩ (Value.slice a6 (lsH h 4).length q6)).frozen? ⟨w.heap.size + 1, 1, none⟩ = false := frz_of b71
      have m2 : (w6.setCell ⟨w.heap.size + 2, 9, none⟩ (Value.slice a6 (lsH h 4).length q6)).cell? ⟨w.heap.size + 1, 2, none⟩ = some (Value.int IntKind.i64 0) := by rw [cell_of_row _ _ _ _ _ _ b71]; rfl
      have r2 : (w6.setCell ⟨w.heap.size + 2, 9, none⟩ (Value.slice a6 (lsH h 4).length q6)).frozen? ⟨w.heap.size + 1, 2, none⟩ = false := frz_of b71
      have m3 : (w6.setCell ⟨w.heap.size + 2, 9, none⟩ (Value.slice a6 (lsH h 4).length q6)).cell? ⟨w.heap.size + 1, 3, none⟩ = some (Value.bool false) := by rw [cell_of_row _ _ _ _ _ _ b71]; rfl
      have r3 : (w6.setCell ⟨w.heap.size + 2, 9, none⟩ (Value.slice a6 (lsH h 4).length q6)).frozen? ⟨w.heap.size + 1, 3, none⟩ = false := frz_of b71
      have m4 : (w6.setCell ⟨w.heap.size + 2, 9, none⟩ (Value.slice a6 (lsH h 4).length q6)).cell? ⟨w.heap.size + 1, 4, none⟩ = some (Value.int IntKind.i64 0) := by rw [cell_of_row _ _ _ _ _ _ b71]; rfl
      have r4 : (w6.setCell ⟨w.heap.size + 2, 9, none⟩ (Value.slice a6 (lsH h 4).length q6)).frozen? ⟨w.heap.size + 1, 4, none⟩ = false := frz_of b71
      have m5 : (w6.setCell ⟨w.heap.size + 2, 9, none⟩ (Value.slice a6 (lsH h 4).length q6)).cell? ⟨w.heap.size + 1, 5, none⟩ = some (Value.slice none 0 0) := by rw [cell_of_row _ _ _ _ _ _ b71]; rfl
      have r5 : (w6.setCell ⟨w.heap.size + 2, 9, none⟩ (Value.slice a6 (lsH h 4).length q6)).frozen? ⟨w.heap.size + 1, 5, none⟩ = false := frz_of b71
      have m6 : (w6.setCell ⟨w.heap.size + 2, 9, none⟩ (Value.slice a6 (lsH h 4).length q6)).cell? ⟨w.heap.size + 1, 6, none⟩ = some (Value.slice none 0 0) := by rw [cell_of_row _ _ _ _ _ _ b71]; rfl
      have r6 : (w6.setCell ⟨w.heap.size + 2, 9, none⟩ (Value.slice a6 (lsH h 4).length q6)).frozen? ⟨w.heap.size + 1, 6, none⟩ = false := frz_of b71
      have m7 : (w6.setCell ⟨w.heap.size + 2, 9, none⟩ (Value.slice a6 (lsH h 4).length q6)).cell? ⟨w.heap.size + 1, 7, none⟩ = some (Value.slice none 0 0) := by rw [cell_of_row _ _ _ _ _ _ b71]; rfl
      have r7 : (w6.setCell ⟨w.heap.size + 2, 9, none⟩ (Value.slice a6 (lsH h 4).length q6)).frozen? ⟨w.heap.size + 1, 7, none⟩ = false := frz_of b71
      have m8 : (w6.setCell ⟨w.heap.size + 2, 9, none⟩ (Value.slice a6 (lsH h 4).length q6)).cell? ⟨w.heap.size + 1, 8, none⟩ = some (Value.slice none 0 0) := by rw [cell_of_row _ _ _ _ _ _ b71]; rfl
      have r8 : (w6.setCell ⟨w.heap.size + 2, 9, none⟩ (Value.slice a6 (lsH h 4).length q6)).frozen? ⟨w.heap.size + 1, 8, none⟩ = false := frz_of b71
      have m9 : (w6.setCell ⟨w.heap.size + 2, 9, none⟩ (Value.slice a6 (lsH h 4).length q6)).cell? ⟨w.heap.size + 1, 9, none⟩ = some (Value.slice none 0 0) := by rw [cell_of_row _ _ _ _ _ _ b71]; rfl
      have r9 : (w6.setCell ⟨w.heap.size + 2, 9, none⟩ (Value.slice a6 (lsH h 4).length q6)).frozen? ⟨w.heap.size + 1, 9, none⟩ = false := frz_of b71
      have bF : (((((((((((w6.setCell ⟨w.heap.size + 2, 9, none⟩ (Value.slice a6 (lsH h 4).length q6)).setCell ⟨w.heap.size + 1, 0, none⟩ (Value.int IntKind.u64 h.base)).setCell ⟨w.heap.size + 1, 1, none⟩ (Value.int IntKind.i64 h.cap)).setCell ⟨w.heap.size + 1, 2, none⟩ (Value.int IntKind.i64 h.to)).setCell ⟨w.heap.size + 1, 3, none⟩ (Value.bool h.cycle)).setCell ⟨w.heap.size + 1, 4, none⟩ (Value.int IntKind.i64 h.scan)).setCell ⟨w.heap.size + 1, 5, none⟩ (Value.slice a0' (lsH h 0).length q0')).setCell ⟨w.heap.size + 1, 6, none⟩ (Value.slice a1' (lsH h 1).length q1')).setCell ⟨w.heap.size + 1, 7, none⟩ (Value.slice a2' (lsH h 2).length q2')).setCell ⟨w.heap.size + 1, 8, none⟩ (Value.slice a3' (lsH h 3).length q3')).setCell ⟨w.heap.size + 1, 9, none⟩ (Value.slice a6 (lsH h 4).length q6)).heap[w.heap.size + 1]? = some (.cells #[Value.int IntKind.u64 h.base, Value.int IntKind.i64 h.cap, Value.int IntKind.i64 h.to, Value.bool h.cycle, Value.int IntKind.i64 h.scan, Value.slice a0' (lsH h 0).length q0', Value.slice a1' (lsH h 1).length q1', Value.slice a2' (lsH h 2).length q2', Value.slice a3' (lsH h 3).length q3', Value.slice a6 (lsH h 4).length q6] 31 (0, 0)) := by
        simp [World.setCell, Array.getElem?_modify, b61]
      have z0 : (((((((((((w6.setCell ⟨w.heap.size + 2, 9, none⟩ (Value.slice a6 (lsH h 4).length q6)).setCell ⟨w.heap.size + 1, 0, none⟩ (Value.int IntKind.u64 h.base)).setCell ⟨w.heap.size + 1, 1, none⟩ (Value.int IntKind.i64 h.cap)).setCell ⟨w.heap.size + 1, 2, none⟩ (Value.int IntKind.i64 h.to)).setCell ⟨w.heap.size + 1, 3, none⟩ (Value.bool h.cycle)).setCell ⟨w.heap.size + 1, 4, none⟩ (Value.int IntKind.i64 h.scan)).setCell ⟨w.heap.size + 1, 5, none⟩ (Value.slice a0' (lsH h 0).length q0')).setCell ⟨w.heap.size + 1, 6, none⟩ (Value.slice a1' (lsH h 1).length q1')).setCell ⟨w.heap.size + 1, 7, none⟩ (Value.slice a2' (lsH h 2).length q2')).setCell ⟨w.heap.size + 1, 8, none⟩ (Value.slice a3' (lsH h 3).length q3')).setCell ⟨w.heap.size + 1, 9, none⟩ (Value.slice a6 (lsH h 4).length q6)).cell? ⟨w.heap.size + 1, 0, none⟩ = some (Value.int IntKind.u64 h.base) := by rw [cell_of_row _ _ _ _ _ _ bF]; rfl
      have z1 : (((((((((((w6.setCell ⟨w.heap.size + 2, 9, none⟩ (Value.slice a6 (lsH h 4).length q6)).setCell ⟨w.heap.size + 1, 0, none⟩ (Value.int IntKind.u64 h.base)).setCell ⟨w.heap.size + 1, 1, none⟩ (Value.int IntKind.i64 h.cap)).setCell ⟨w.heap.size + 1, 2, none⟩ (Value.int IntKind.i64 h.to)).setCell ⟨w.heap.size + 1, 3, none⟩ (Value.bool h.cycle)).setCell ⟨w.heap.size + 1, 4, none⟩ (Value.int IntKind.i64 h.scan)).setCell ⟨w.heap.size + 1, 5, none⟩ (Value.slice a0' (lsH h 0).length q0')).setCell ⟨w.heap.size + 1, 6, none⟩ (Value.slice a1' (lsH h 1).length q1')).setCell ⟨w.heap.size + 1, 7, none⟩ (Value.slice a2' (lsH h 2).length q2')).setCell ⟨w.heap.size + 1, 8, none⟩ (Value.slice a3' (lsH h 3).length q3')).setCell ⟨w.heap.size + 1, 9, none⟩ (Value.slice a6 (lsH h 4).length q6)).cell? ⟨w.heap.size + 1, 1, none⟩ = some (Value.int IntKind.i64 h.cap) := by rw [cell_of_row _ _ _ _ _ _ bF]; rfl
      have z2 : (((((((((((w6.setCell ⟨w.heap.size + 2, 9, none⟩ (Value.slice a6 (lsH h 4).length q6)).setCell ⟨w.heap.size + 1, 0, none⟩ (Value.int IntKind.u64 h.base)).setCell ⟨w.heap.size + 1, 1, none⟩ (Value.int IntKind.i64 h.cap)).setCell ⟨w.heap.size + 1, 2, none⟩ (Value.int IntKind.i64 h.to)).setCell ⟨w.heap.size + 1, 3, none⟩ (Value.bool h.cycle)).setCell ⟨w.heap.size + 1, 4, none⟩ (Value.int IntKind.i64 h.scan)).setCell ⟨w.heap.size + 1, 5, none⟩ (Value.slice a0' (lsH h 0).length q0')).setCell ⟨w.heap.size + 1, 6, none⟩ (Value.slice a1' (lsH h 1).length q1')).setCell ⟨w.heap.size + 1, 7, none⟩ (Value.slice a2' (lsH h 2).length q2')).setCell ⟨w.heap.size + 1, 8, none⟩ (Value.slice a3' (lsH h 3).length q3')).setCell ⟨w.heap.size + 1, 9, none⟩ (Value.slice a6 (lsH h 4).length q6)).cell? ⟨w.heap.size + 1, 2, none⟩ = some (Value.int IntKind.i64 h.to) := by rw [cell_of_row _ _ _ _ _ _ bF]; rfl
      have z3 : (((((((((((w6.setCell ⟨w.heap.size + 2, 9, none⟩ (Value.slice a6 (lsH h 4).length q6)).setCell ⟨w.heap.size + 1, 0, none⟩ (Value.int IntKind.u64 h.base)).setCell ⟨w.heap.size + 1, 1, none⟩ (Value.int IntKind.i64 h.cap)).setCell ⟨w.heap.size + 1, 2, none⟩ (Value.int IntKind.i64 h.to)).setCell ⟨w.heap.size + 1, 3, none⟩ (Value.bool h.cycle)).setCell ⟨w.heap.size + 1, 4, none⟩ (Value.int IntKind.i64 h.scan)).setCell ⟨w.heap.size + 1, 5, none⟩ (Value.slice a0' (lsH h 0).length q0')).setCell ⟨w.heap.size + 1, 6, none⟩ (Value.slice a1' (lsH h 1).length q1')).setCell ⟨w.heap.size + 1, 7, none⟩ (Value.slice a2' (lsH h 2).length q2')).setCell ⟨w.heap.size + 1, 8, none⟩ (Value.slice a3' (lsH h 3).length q3')).setCell ⟨w.heap.size + 1, 9, none⟩ (Value.slice a6 (lsH h 4).length q6)).cell? ⟨w.heap.size + 1, 3, none⟩ = some (Value.bool h.cycle) := by rw [cell_of_row _ _ _ _ _ _ bF]; rfl
      have z4 : (((((((((((w6.setCell ⟨w.heap.size + 2, 9, none⟩ (Value.slice a6 (lsH h 4).length q6)).setCell ⟨w.heap.size + 1, 0, none⟩ (Value.int IntKind.u64 h.base)).setCell ⟨w.heap.size + 1, 1, none⟩ (Value.int IntKind.i64 h.cap)).setCell ⟨w.heap.size + 1, 2, none⟩ (Value.int IntKind.i64 h.to)).setCell ⟨w.heap.size + 1, 3, none⟩ (Value.bool h.cycle)).setCell ⟨w.heap.size + 1, 4, none⟩ (Value.int IntKind.i64 h.scan)).setCell ⟨w.heap.size + 1, 5, none⟩ (Value.slice a0' (lsH h 0).length q0')).setCell ⟨w.heap.size + 1, 6, none⟩ (Value.slice a1' (lsH h 1).length q1')).setCell ⟨w.heap.size + 1, 7, none⟩ (Value.slice a2' (lsH h 2).length q2')).setCell ⟨w.heap.size + 1, 8, none⟩ (Value.slice a3' (lsH h 3).length q3')).setCell ⟨w.heap.size + 1, 9, none⟩ (Value.slice a6 (lsH h 4).length q6)).cell? ⟨w.heap.size + 1, 4, none⟩ = some (Value.int IntKind.i64 h.scan) := by rw [cell_of_row _ _ _ _ _ _ bF]; rfl
      have z5 : (((((((((((w6.setCell ⟨w.heap.size + 2, 9, none⟩ (Value.slice a6 (lsH h 4).length q6)).setCell ⟨w.heap.size + 1, 0, none⟩ (Value.int IntKind.u64 h.base)).setCell ⟨w.heap.size + 1, 1, none⟩ (Value.int IntKind.i64 h.cap)).setCell ⟨w.heap.size + 1, 2, none⟩ (Value.int IntKind.i64 h.to)).setCell ⟨w.heap.size + 1, 3, none⟩ (Value.bool h.cycle)).setCell ⟨w.heap.size + 1, 4, none⟩ (Value.int IntKind.i64 h.scan)).setCell ⟨w.heap.size + 1, 5, none⟩ (Value.slice a0' (lsH h 0).length q0')).setCell ⟨w.heap.size + 1, 6, none⟩ (Value.slice a1' (lsH h 1).length q1')).setCell ⟨w.heap.size + 1, 7, none⟩ (Value.slice a2' (lsH h 2).length q2')).setCell ⟨w.heap.size + 1, 8, none⟩ (Value.slice a3' (lsH h 3).length q3')).setCell ⟨w.heap.size + 1, 9, none⟩ (Value.slice a6 (lsH h 4).length q6)).cell? ⟨w.heap.size + 1, 5, none⟩ = some (Value.slice a0' (lsH h 0).length q0') := by rw [cell_of_row _ _ _ _ _ _ bF]; rfl
      have z6 : (((((((((((w6.setCell ⟨w.heap.size + 2, 9, none⟩ (Value.slice a6 (lsH h 4).length q6)).setCell ⟨w.heap.size + 1, 0, none⟩ (Value.int IntKind.u64 h.base)).setCell ⟨w.heap.size + 1, 1, none⟩ (Value.int IntKind.i64 h.cap)).setCell ⟨w.heap.size + 1, 2, none⟩ (Value.int IntKind.i64 h.to)).setCell ⟨w.heap.size + 1, 3, none⟩ (Value.bool h.cycle)).setCell ⟨w.heap.size + 1, 4, none⟩ (Value.int IntKind.i64 h.scan)).setCell ⟨w.heap.size + 1, 5, none⟩ (Value.slice a0' (lsH h 0).length q0')).setCell ⟨w.heap.size + 1, 6, none⟩ (Value.slice a1' (lsH h 1).length q1')).setCell ⟨w.heap.size + 1, 7, none⟩ (Value.slice a2' (lsH h 2).length q2')).setCell ⟨w.heap.size + 1, 8, none⟩ (Value.slice a3' (lsH h 3).length q3')).setCell ⟨w.heap.size + 1, 9, none⟩ (Value.slice a6 (lsH h 4).length q6)).cell? ⟨w.heap.size + 1, 6, none⟩ = some (Value.slice a1' (lsH h 1).length q1') := by rw [cell_of_row _ _ _ _ _ _ bF]; rfl
      have z7 : (((((((((((w6.setCell ⟨w.heap.size + 2, 9, none⟩ (Value.slice a6 (lsH h 4).length q6)).setCell ⟨w.heap.size + 1, 0, none⟩ (Value.int IntKind.u64 h.base)).setCell ⟨w.heap.size + 1, 1, none⟩ (Value.int IntKind.i64 h.cap)).setCell ⟨w.heap.size + 1, 2, none⟩ (Value.int IntKind.i64 h.to)).setCell ⟨w.heap.size + 1, 3, none⟩ (Value.bool h.cycle)).setCell ⟨w.heap.size + 1, 4, none⟩ (Value.int IntKind.i64 h.scan)).setCell ⟨w.heap.size + 1, 5, none⟩ (Value.slice a0' (lsH h 0).length q0')).setCell ⟨w.heap.size + 1, 6, none⟩ (Value.slice a1' (lsH h 1).length q1')).setCell ⟨w.heap.size + 1, 7, none⟩ (Value.slice a2' (lsH h 2).length q2')).setCell ⟨w.heap.size + 1, 8, none⟩ (Value.slice a3' (lsH h 3).length q3')).setCell ⟨w.heap.size + 1, 9, none⟩ (Value.slice a6 (lsH h 4).length q6)).cell? ⟨w.heap.size + 1, 7, none⟩ = some (Value.slice a2' (lsH h 2).length q2') := by rw [cell_of_row _ _ _ _ _ _ bF]; rfl
      have z8 : (((((((((((w6.setCell ⟨w.heap.size + 2, 9, none⟩ (Value.slice a6 (lsH h 4).length q6)).setCell ⟨w.heap.size + 1, 0, none⟩ (Value.int IntKind.u64 h.base)).setCell ⟨w.heap.size + 1, 1, none⟩ (Value.int IntKind.i64 h.cap)).setCell ⟨w.heap.size + 1, 2, none⟩ (Value.int IntKind.i64 h.to)).setCell ⟨w.heap.size + 1, 3, none⟩ (Value.bool h.cycle)).setCell ⟨w.heap.size + 1, 4, none⟩ (Value.int IntKind.i64 h.scan)).setCell ⟨w.heap.size + 1, 5, none⟩ (Value.slice a0' (lsH h 0).length q0')).setCell ⟨w.heap.size + 1, 6, none⟩ (Value.slice a1' (lsH h 1).length q1')).setCell ⟨w.heap.size + 1, 7, none⟩ (Value.slice a2' (lsH h 2).length q2')).setCell ⟨w.heap.size + 1, 8, none⟩ (Value.slice a3' (lsH h 3).length q3')).setCell ⟨w.heap.size + 1, 9, none⟩ (Value.slice a6 (lsH h 4).length q6)).cell? ⟨w.heap.size + 1, 8, none⟩ = some (Value.slice a3' (lsH h 3).length q3') := by rw [cell_of_row _ _ _ _ _ _ bF]; rfl
      have z9 : (((((((((((w6.setCell ⟨w.heap.size + 2, 9, none⟩ (Value.slice a6 (lsH h 4).length q6)).setCell ⟨w.heap.size + 1, 0, none⟩ (Value.int IntKind.u64 h.base)).setCell ⟨w.heap.size + 1, 1, none⟩ (Value.int IntKind.i64 h.cap)).setCell ⟨w.heap.size + 1, 2, none⟩ (Value.int IntKind.i64 h.to)).setCell ⟨w.heap.size + 1, 3, none⟩ (Value.bool h.cycle)).setCell ⟨w.heap.size + 1, 4, none⟩ (Value.int IntKind.i64 h.scan)).setCell ⟨w.heap.size + 1, 5, none⟩ (Value.slice a0' (lsH h 0).length q0')).setCell ⟨w.heap.size + 1, 6, none⟩ (Value.slice a1' (lsH h 1).length q1')).setCell ⟨w.heap.size + 1, 7, none⟩ (Value.slice a2' (lsH h 2).length q2')).setCell ⟨w.heap.size + 1, 8, none⟩ (Value.slice a3' (lsH h 3).length q3')).setCell ⟨w.heap.size + 1, 9, none⟩ (Value.slice a6 (lsH h 4).length q6)).cell? ⟨w.heap.size + 1, 9, none⟩ = some (Value.slice a6 (lsH h 4).length q6) := by rw [cell_of_row _ _ _ _ _ _ bF]; rfl
      have hkp : ∀ c, c ≠ w.heap.size + 1 → c ≠ w.heap.size + 2 → (((((((((((w6.setCell ⟨w.heap.size + 2, 9, none⟩ (Value.slice a6 (lsH h 4).length q6)).setCell ⟨w.heap.size + 1, 0, none⟩ (Value.int IntKind.u64 h.base)).setCell ⟨w.heap.size + 1, 1, none⟩ (Value.int IntKind.i64 h.cap)).setCell ⟨w.heap.size + 1, 2, none⟩ (Value.int IntKind.i64 h.to)).setCell ⟨w.heap.size + 1, 3, none⟩ (Value.bool h.cycle)).setCell ⟨w.heap.size + 1, 4, none⟩ (Value.int IntKind.i64 h.scan)).setCell ⟨w.heap.size + 1, 5, none⟩ (Value.slice a0' (lsH h 0).length q0')).setCell ⟨w.heap.size + 1, 6, none⟩ (Value.slice a1' (lsH h 1).length q1')).setCell ⟨w.heap.size + 1, 7, none⟩ (Value.slice a2' (lsH h 2).length q2')).setCell ⟨w.heap.size + 1, 8, none⟩ (Value.slice a3' (lsH h 3).length q3')).setCell ⟨w.heap.size + 1, 9, none⟩ (Value.slice a6 (lsH h 4).length q6)).heap[c]? = w6.heap[c]? := fun c h1 h2 => by
        simp [World.setCell, Array.getElem?_modify, h1, h2, Ne.symm h1, Ne.symm h2]
      have hbF : Below w.heap.size w (((((((((((w6.setCell ⟨w.heap.size + 2, 9, none⟩ (Value.slice a6 (lsH h 4).length q6)).setCell ⟨w.heap.size + 1, 0, none⟩ (Value.int IntKind.u64 h.base)).setCell ⟨w.heap.size + 1, 1, none⟩ (Value.int IntKind.i64 h.cap)).setCell ⟨w.heap.size + 1, 2, none⟩ (Value.int IntKind.i64 h.to)).setCell ⟨w.heap.size + 1, 3, none⟩ (Value.bool h.cycle)).setCell ⟨w.heap.size + 1, 4, none⟩ (Value.int IntKind.i64 h.scan)).setCell ⟨w.heap.size + 1, 5, none⟩ (Value.slice a0' (lsH h 0).length q0')).setCell ⟨w.heap.size + 1, 6, none⟩ (Value.slice a1' (lsH h 1).length q1')).setCell ⟨w.heap.size + 1, 7, none⟩ (Value.slice a2' (lsH h 2).length q2')).setCell ⟨w.heap.size + 1, 8, none⟩ (Value.slice a3' (lsH h 3).length q3')).setCell ⟨w.heap.size + 1, 9, none⟩ (Value.slice a6 (lsH h 4).length q6)) := by
        refine Below.setCell (Below.setCell (Below.setCell (Below.setCell (Below.setCell (Below.setCell (Below.setCell (Below.setCell (Below.setCell (Below.setCell (Below.setCell (HI.out.below.grown hgrow hs0 (by simp)) (by simp) _) (by simp) _) (by simp) _) (by simp) _) (by simp) _) (by simp) _) (by simp) _) (by simp) _) (by simp) _) (by simp) _) (by simp) _
      have hnew : ∀ c, (Value.slice a6 (lsH h 4).length q6).ownBlock = some c → wr.heap.size ≤ c := by
        intro c hc
        rcases hat6 with e | ⟨_, e⟩
        · rw [e] at hc; cases hc
        · exact (e.lt c hc).1
      have hF : HOwn w.heap.size (((((((((((w6.setCell ⟨w.heap.size + 2, 9, none⟩ (Value.slice a6 (lsH h 4).length q6)).setCell ⟨w.heap.size + 1, 0, none⟩ (Value.int IntKind.u64 h.base)).setCell ⟨w.heap.size + 1, 1, none⟩ (Value.int IntKind.i64 h.cap)).setCell ⟨w.heap.size + 1, 2, none⟩ (Value.int IntKind.i64 h.to)).setCell ⟨w.heap.size + 1, 3, none⟩ (Value.bool h.cycle)).setCell ⟨w.heap.size + 1, 4, none⟩ (Value.int IntKind.i64 h.scan)).setCell ⟨w.heap.size + 1, 5, none⟩ (Value.slice a0' (lsH h 0).length q0')).setCell ⟨w.heap.size + 1, 6, none⟩ (Value.slice a1' (lsH h 1).length q1')).setCell ⟨w.heap.size + 1, 7, none⟩ (Value.slice a2' (lsH h 2).length q2')).setCell ⟨w.heap.size + 1, 8, none⟩ (Value.slice a3' (lsH h 3).length q3')).setCell ⟨w.heap.size + 1, 9, none⟩ (Value.slice a6 (lsH h 4).length q6)) h (fun j => if j = 4 then Value.slice a6 (lsH h 4).length q6 else xs j) := by
        refine ⟨fun j hj => ?_, fun i j hij hj c hc => ?_⟩
        · by_cases h4 : j = 4
          · subst h4
            rw [if_pos rfl]
            exact owns_block hown6 fun c hc => hkp c (by have := hnew c hc; omega) (by have := hnew c hc; omega)
          · rw [if_neg h4]
            have ho := HI.out.own j (by omega)
            exact owns_block ho fun c hc => by
              have h1 := HI.out.newer j (by omega) c hc
              have h2 := (ho.lt c hc).2
              rw [hkp c (by omega) (by omega), hgrow.block c h2 (by simp)]
        · rw [if_neg (by omega)] at hc
          by_cases h4 : j = 4
          · subst h4
            rw [if_pos rfl]
            intro e
            have h1 := hnew c e
            have h2 := ((HI.out.own i (by omega)).lt c hc).2
            omega
          · rw [if_neg h4]
            exact HI.out.apart i j hij (by omega) c hc
      clear hkp hnew bF
      go_wp2
      refine bodyPost_ret (v := .agg #[Value.int IntKind.u64 h.base, Value.int IntKind.i64 h.cap, Value.int IntKind.i64 h.to, Value.bool h.cycle, Value.int IntKind.i64 h.scan, Value.slice a0' (lsH h 0).length q0', Value.slice a1' (lsH h 1).length q1', Value.slice a2' (lsH h 2).length q2', Value.slice a3' (lsH h 3).length q3', Value.slice a6 (lsH h 4).length q6]) (by simp [results, Try.results56, go_sem, z0, z1, z2, z3, z4, z5, z6, z7, z8, z9]) rfl ⟨_, ?_, hbF, hF⟩
      unfold hpA
      simp [e0, e1, e2, e3]
end Vm
