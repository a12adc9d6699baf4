/-
  graph.own, walked by hand: the walk.
-/
import Derived.Test.YtbmgnmjghhakhaaDc
import Derived.Deep.RegionLaw
import Derived.Lib.Hide
namespace Vm
open Go Go.Proofs Go.RowKit
set_option maxHeartbeats 4000000
set_option maxRecDepth 100000
set_option linter.unusedSimpArgs false
set_option linter.unusedVariables false
theorem elI : elOk Try.prog 3 = true := by kernel_rfl
theorem elU : elOk Try.prog 28 = true := by kernel_rfl
theorem ceI : Try.prog.cellsOf 3 = 1 := by kernel_rfl
theorem ceU : Try.prog.cellsOf 28 = 1 := by kernel_rfl
theorem infoN : (Try.prog.info? 32).map (fun i => (i.zero, i.size, i.bytes)) = some (some (.agg #[.slice none 0 0, .slice none 0 0]), 2, 48) := by kernel_rfl
def OwnPost (w : World) (g : Gr) (e : Ending) (w' : World) : Prop := ∃ nv rv xs, e = .returned (.agg #[nv, rv]) ∧ Below w.heap.size w w' ∧ GOwn w.heap.size w' g nv rv xs
theorem new_of {w w' : World} {e : TypeId} {z n B : Nat} {v : Value} {xs : List Value} (h : v.ownBlock = none ∨ (w.grownBy w' none ∧ w'.ownsRow w.heap.size e z v n xs)) : ∀ b, v.ownBlock = some b → w.heap.size ≤ b := by
  intro b hb
  rcases h with h | ⟨_, h⟩
  · rw [h] at hb; cases hb
  · exact (h.lt b hb).1
theorem frz_new (w : World) (cs : Array Value) (T : TypeId) (o : Nat) : (w.alloc (.cells cs T)).frozen? ⟨w.heap.size, o, none⟩ = false :=
  frz_of (heap_alloc_new w (.cells cs T))
theorem own_walk (w : World) (G : Nat → Prop) (hG : ∀ b, G b → b < w.heap.size) (g : Gr) (a0 : Option Addr) (n c0 : Nat) (rv0 : Value) (hn : n = g.nodes.length) (hnb : n ≤ 100000) (hrb : g.roots.length ≤ 100000)
    (hsrc : 0 < n → ∃ bs os, a0 = some ⟨bs, os, none⟩ ∧ ∀ (k : Nat) (x : Nd), g.nodes[k]? = some x → (x.ptrs.length ≤ 100000 ∧ x.data.length ≤ 100000) ∧ ∃ pa pc da dc, bs < w.heap.size ∧ w.cell? ⟨bs, os + k * 2, none⟩ = some (.slice pa x.ptrs.length pc) ∧ w.cell? ⟨bs, os + k * 2 + 1, none⟩ = some (.slice da x.data.length dc) ∧
      Rd w G (.sl (x.ptrs.map vi)) (.slice pa x.ptrs.length pc) ∧ Rd w G (.sl (x.data.map vu)) (.slice da x.data.length dc))
    (hr0 : Rd w G (.sl (g.roots.map vi)) rv0) :
    Calls Try.prog 54 #[.agg #[.slice a0 n c0, rv0]] w (OwnPost w g) := by
  obtain ⟨i32, hi32, hz32, hs32, hb32⟩ := info_parts infoN
  have HR := Lib.hid hr0
  have HN := Lib.hid hn
  have HSRC := Lib.hid hsrc
  have hsz : sizeOk (Try.prog.cellsOf 3) (g.roots.map vi) = true := by rw [ceI]; exact sizeOk_vi _
  have HS := Lib.hid hsz
  clear hr0 hn hsz hsrc
  go_enter Try.func54, Try.ntmps54
  go_wp2_with (at_builtin; refine wpList_appendO (B := w.heap.size) (n := 0) (xs := []) rfl _ _ _ rfl Try.underlying23 elI rfl rfl (World.ownsRow_nil _ _ _ _) ?c1 (l := g.roots.map vi) (Gy := G) ?c2 HS.out ?c4 ?_)
  case c1 => simp; omega
  case c2 => exact HR.out.keep (fun b hb => by
    have := hG b hb
    rw [Below.heap_alloc _ _ _ (by simp; omega), Below.heap_alloc _ _ _ this]) fun _ h => h
  case c4 => simp [lim]; omega
  intro rv w1 news hown hgrow hat hnews
  simp only [ceI] at hown
  have hnl : news.length = g.roots.length := by have := hown.1; simpa using this
  rw [news_nums hnews hnl] at hown
  obtain ⟨ra, rc, hrv⟩ := own_form hown
  try simp only [List.length_map, Nat.zero_add] at hrv hown
  subst hrv
  have HO := Lib.hid hown
  have HG := Lib.hid hgrow
  have ha0 : ∀ b, (Value.slice ra g.roots.length rc).ownBlock = some b → w.heap.size + 2 ≤ b := by
    intro b hb
    rcases hat with h | ⟨_, h⟩
    · rw [h] at hb; cases hb
    · have := (h.lt b hb).1; omega
  have HA := Lib.hid ha0
  clear ha0
  have hz : w.heap.size + 1 < w1.heap.size := by have := hgrow.size; simp at this; omega
  have e1 : w1.cell? ⟨w.heap.size, 0, none⟩ = some (.slice a0 n c0) := by
    rw [hgrow.cell_far _ (by simp; omega) (by simp [Value.ownBlock])]
    rw [World.cell?_alloc_lt _ _ _ (by simp)]
    rw [World.cell?_of_block (w := (w.alloc (.cells #[.slice a0 n c0, rv0] 25))) (by rfl)]
    simp
  have e2 : (w1.alloc (.cells #[.slice none 0 0, .slice ra g.roots.length rc] 25)).cell? ⟨w.heap.size, 0, none⟩ = some (.slice a0 n c0) := by
    rw [World.cell?_alloc_lt _ _ _ (by simp; omega)]; exact e1
  clear hown hgrow hat hnews e1
  go_wp2
  go_loopw [13] (fun i wr => ∃ k nv xs, i = .int .i64 (k : Nat) ∧ k ≤ n ∧ wr.cell? ⟨w1.heap.size, 0, none⟩ = some nv ∧ wr.frozen? ⟨w1.heap.size, 0, none⟩ = false ∧ Hid (OwnSt w wr (w.heap.size + 1) w1.heap.size g k (.slice ra g.roots.length rc) nv xs))
    (fun i _ => n - (intOf i).toNat)
  case atStart =>
    refine ⟨0, .slice none 0 0, [], rfl, Nat.zero_le _, by simp, frz_new _ _ _ _, Lib.hid ?_⟩
    have hg := HG.out
    have ho := HO.out
    have hb1 : w1.heap[w.heap.size + 1]? = some (.cells #[.slice none 0 0, .slice none 0 0] 25 (0, 0)) := by
      rw [hg.block _ (by simp) (by simp [Value.ownBlock])]
      have := heap_alloc_new (w.alloc (.cells #[.slice a0 n c0, rv0] 25)) (.cells #[.slice none 0 0, .slice none 0 0] 25)
      simpa using this
    refine ⟨?_, by omega, by omega, ?_, heap_alloc_new w1 _, owns_block ho fun b hb => Below.heap_alloc _ _ _ (ho.lt b hb).2, World.ownsRow_nil _ _ _ _, rfl, ?_⟩
    · exact ((((Below.refl _ _).alloc (Nat.le_refl _) _).alloc (by simp) _).grown hg (by simp; omega) (by simp [Value.ownBlock])).alloc (by omega) _
    · rw [Below.heap_alloc _ _ _ (by omega)]; exact hb1
    · have ha : ∀ b, (Value.slice ra g.roots.length rc).ownBlock = some b → w.heap.size + 2 ≤ b ∧ b < w1.heap.size := fun b hb => ⟨HA.out b hb, (ho.lt b hb).2⟩
      generalize (Value.slice ra g.roots.length rc).ownBlock = o at ha
      have hnone : (Value.slice none 0 0).ownBlock = none := rfl
      rw [hnone]
      simp only [Apart, List.map_nil, List.pairwise_cons, List.mem_cons, List.not_mem_nil, or_false, List.Pairwise.nil, and_true, false_implies, implies_true]
      refine ⟨fun x hx b hb => ?_, fun x hx b hb => ?_, fun x hx b hb => ?_⟩
      · cases hb
        rcases hx with rfl | rfl | rfl
        · simp; omega
        · intro e; have := ha _ e; omega
        · simp
      · cases hb
        rcases hx with rfl | rfl
        · intro e; have := ha _ e; omega
        · simp
      · subst hx; simp
  case round =>
    obtain ⟨k, nv, xs, rfl, hk, hc3, hf3, HI⟩ := hrel
    have hws := HI.out.below.size
    by_cases hlt : k < n
    · have hkl : k < g.nodes.length := by have := HN.out; omega
      obtain ⟨bs, os, ha0, hsr⟩ := HSRC.out (by omega)
      subst ha0
      have hgk : g.nodes[k]? = some g.nodes[k] := List.getElem?_eq_getElem hkl
      obtain ⟨⟨l1, l2⟩, pa, pc, da, dc, hbs, q1, q2, q3, q4⟩ := hsr k g.nodes[k] hgk
      have HK := Lib.hid hgk
      have q1' : wr.cell? ⟨bs, os + k * 2, none⟩ = some (.slice pa g.nodes[k].ptrs.length pc) := (HI.out.below.cell (by exact hbs)).trans q1
      have q2' : wr.cell? ⟨bs, os + k * 2 + 1, none⟩ = some (.slice da g.nodes[k].data.length dc) := (HI.out.below.cell (by exact hbs)).trans q2
      have hRd : ∀ w' : World, (∀ b, b < w.heap.size → w'.heap[b]? = w.heap[b]?) → Rd w' G (.sl (g.nodes[k].ptrs.map vi)) (.slice pa g.nodes[k].ptrs.length pc) ∧ Rd w' G (.sl (g.nodes[k].data.map vu)) (.slice da g.nodes[k].data.length dc) :=
        fun w' hw' => ⟨q3.keep (fun b hb => hw' b (hG b hb)) fun _ h => h, q4.keep (fun b hb => hw' b (hG b hb)) fun _ h => h⟩
      have HRd := Lib.hid hRd
      clear q1 q2 q3 q4 hRd hsr hgk
      generalize g.nodes[k] = nd at *
      go_wp2_with fail
      obtain ⟨na, nc, hnv⟩ : ∃ a c, nv = .slice a k c := own_form HI.out.nodes
      subst hnv
      have hb3 : w1.heap.size < wr.heap.size := heap_lt HI.out.blk3
      have hc3' : (wr.alloc (.cells #[.slice pa nd.ptrs.length pc, .slice da nd.data.length dc] 32)).cell? ⟨w1.heap.size, 0, none⟩ = some (.slice na k nc) := by
        rw [World.cell?_alloc_lt _ _ _ (by simpa using hb3)]; exact hc3
      have hf3' : (wr.alloc (.cells #[.slice pa nd.ptrs.length pc, .slice da nd.data.length dc] 32)).frozen? ⟨w1.heap.size, 0, none⟩ = false := by
        rw [World.frozen?_alloc_old _ _ _ (by simp; omega)]; exact hf3
      have hc50 : (wr.alloc (.cells #[.slice pa nd.ptrs.length pc, .slice da nd.data.length dc] 32)).cell? ⟨wr.heap.size, 0, none⟩ = some (.slice pa nd.ptrs.length pc) := by simp
      have hc51 : (wr.alloc (.cells #[.slice pa nd.ptrs.length pc, .slice da nd.data.length dc] 32)).cell? ⟨wr.heap.size, 1, none⟩ = some (.slice da nd.data.length dc) := by simp
      have hnw : ∀ b, (Value.slice na k nc).ownBlock = some b → b < wr.heap.size ∧ b ≠ w1.heap.size := fun b hb => ⟨(HI.out.nodes.lt b hb).2, fun e => by
        have := HI.out.apart
        simp only [Apart, List.pairwise_cons] at this
        exact this.2.1 (Value.slice na k nc).ownBlock (by simp) w1.heap.size rfl (by rw [hb, e])⟩
      have ag3 : some w1.heap.size ≠ (Value.slice na k nc).ownBlock := fun e => (hnw _ e.symm).2 rfl
      have ag5 : some wr.heap.size ≠ (Value.slice na k nc).ownBlock := fun e => by have := (hnw _ e.symm).1; omega
      clear hnw
      have HRa := Lib.hid (HRd.out (wr.alloc (.cells #[.slice pa nd.ptrs.length pc, .slice da nd.data.length dc] 32)).drew (fun b hb => (Below.heap_alloc wr _ b (by omega)).trans (HI.out.below.block b hb))).1
      go_region_law
        (first
          | (refine step_appendO (B := w.heap.size) (n := 0) (xs := []) rfl _ _ 23 (by rfl) Try.underlying23 elI (by rfl) (by rfl) (World.ownsRow_nil _ _ _ _) (by simp; omega) (l := nd.ptrs.map vi) (Gy := G)
              HRa.out (by rw [ceI]; exact sizeOk_vi _) (by simp [lim]; omega) ?_
             intro v21 w6 news6 hown6 hgrow hat6 hn6
             simp only [ceI] at hown6
             have hl6 : news6.length = nd.ptrs.length := by have := hown6.1; simpa using this
             rw [news_nums hn6 hl6] at hown6
             obtain ⟨a21, c21, hv21⟩ := own_form hown6
             try simp only [List.length_map, Nat.zero_add] at hv21 hown6
             subst hv21
             have s1 : w6.cell? ⟨w1.heap.size, 0, none⟩ = some (.slice na k nc) := (hgrow.cell_far ⟨w1.heap.size, 0, none⟩ (by simp; omega) (by simp [Value.ownBlock])).trans hc3'
             have s2 : w6.frozen? ⟨w1.heap.size, 0, none⟩ = false := (hgrow.frozen_far ⟨w1.heap.size, 0, none⟩ (by simp; omega) (by simp [Value.ownBlock])).trans hf3'
             have s3 : w6.cell? ⟨wr.heap.size, 0, none⟩ = some (.slice pa nd.ptrs.length pc) := (hgrow.cell_far ⟨wr.heap.size, 0, none⟩ (by simp) (by simp [Value.ownBlock])).trans hc50
             have s4 : w6.cell? ⟨wr.heap.size, 1, none⟩ = some (.slice da nd.data.length dc) := (hgrow.cell_far ⟨wr.heap.size, 1, none⟩ (by simp) (by simp [Value.ownBlock])).trans hc51
             have n6 : w1.heap.size < w6.heap.size := by have := hgrow.size; simp at this; omega
             have hz6 : wr.heap.size + 1 ≤ w6.heap.size := by have := hgrow.size; simp at this; omega
             have HO6 := Lib.hid hown6
             have HG6 := Lib.hid hgrow
             have hb6 : ∀ b, (Value.slice a21 nd.ptrs.length c21).ownBlock = some b → wr.heap.size < b := by
               intro b hb
               have := new_of (B := 0) hat6 b hb
               simp at this
               omega
             have HB6 := Lib.hid hb6
             clear hb6
             clear hown6 hat6 hn6 hl6)
          | (refine step_appendO (B := w.heap.size) (n := 0) (xs := []) rfl _ _ 30 (by rfl) Try.underlying30 elU (by rfl) (by rfl) (World.ownsRow_nil _ _ _ _) (by omega) (l := nd.data.map vu) (Gy := G)
              (HRd.out w6 (fun b hb => (HG6.out.block b (show b < (wr.alloc _).heap.size by simp; omega) (by simp [Value.ownBlock])).trans ((Below.heap_alloc wr _ b (by omega)).trans (HI.out.below.block b hb)))).2 (by rw [ceU]; exact sizeOk_vi _) (by simp [lim]; omega) ?_
             intro v24 w7 news7 hown7 hgrow hat7 hn7
             simp only [ceU] at hown7
             have hl7 : news7.length = nd.data.length := by have := hown7.1; simpa using this
             rw [news_nums hn7 hl7] at hown7
             obtain ⟨a24, c24, hv24⟩ := own_form hown7
             try simp only [List.length_map, Nat.zero_add] at hv24 hown7
             subst hv24
             have t1 : w7.cell? ⟨w1.heap.size, 0, none⟩ = some (.slice na k nc) := (hgrow.cell_far ⟨w1.heap.size, 0, none⟩ (by show w1.heap.size < _; omega) (by simp [Value.ownBlock])).trans s1
             have t2 : w7.frozen? ⟨w1.heap.size, 0, none⟩ = false := (hgrow.frozen_far ⟨w1.heap.size, 0, none⟩ (by show w1.heap.size < _; omega) (by simp [Value.ownBlock])).trans s2
             have t3 : w7.cell? ⟨wr.heap.size, 0, none⟩ = some (.slice pa nd.ptrs.length pc) := (hgrow.cell_far ⟨wr.heap.size, 0, none⟩ (by show wr.heap.size < _; omega) (by simp [Value.ownBlock])).trans s3
             have t4 : w7.cell? ⟨wr.heap.size, 1, none⟩ = some (.slice da nd.data.length dc) := (hgrow.cell_far ⟨wr.heap.size, 1, none⟩ (by show wr.heap.size < _; omega) (by simp [Value.ownBlock])).trans s4
             have t5 : ∀ o, (w7.alloc o).frozen? ⟨w1.heap.size, 0, none⟩ = false := fun o => (World.frozen?_alloc_old _ _ _ (by have := hgrow.size; simp; omega)).trans t2
             have n7 : w1.heap.size < w7.heap.size := by have := hgrow.size; omega
             have hz7 : w6.heap.size ≤ w7.heap.size := hgrow.size
             have HO7 := Lib.hid hown7
             have HG7 := Lib.hid hgrow
             have HA7 := Lib.hid (new_of (B := 0) hat7)
             clear hown7 hat7 hn7 hl7)
          | (refine step_append_lies _ rfl _ _ 22 (by rfl) w.heap.size 32 i32 _ 2 48 Try.underlying22 hi32 hz32 hs32 hb32 rfl (by omega) (.slice na k nc) k xs (by rfl)
              (owns_block HI.out.nodes (fun b hb => by
                have hbl := (HI.out.nodes.lt b hb).2
                rw [Below.heap_alloc _ _ _ (by omega), HG7.out.block b (by omega) (by simp [Value.ownBlock]), HG6.out.block b (by simp; omega) (by simp [Value.ownBlock])]
                exact Below.heap_alloc wr _ b hbl))
              ⟨w7.heap.size, 0, none⟩ 1 1 [.slice a21 nd.ptrs.length c21, .slice a24 nd.data.length c24] (by rfl) (by rfl) (World.news_of_block (cs := #[.slice a21 nd.ptrs.length c21, .slice a24 nd.data.length c24]) (t := 32) (fr := (0, 0)) (heap_alloc_new w7 _)) (by simp [Value.oneCell'])
              (by omega) (by unfold maxLen; omega) (by omega) (by simp; omega) (w7.heap.size + 1) (by simp) ?_
             intro gg cap w8 hown8 hgrow hat8 hlt8
             have u1 : w8.cell? ⟨w1.heap.size, 0, none⟩ = some (.slice na k nc) := (hgrow.cell_far ⟨w1.heap.size, 0, none⟩ (by simp; omega) ag3).trans ((World.cell?_alloc_lt _ _ _ (by show w1.heap.size < _; omega)).trans t1)
             have u2 : w8.frozen? ⟨w1.heap.size, 0, none⟩ = false := (hgrow.frozen_far ⟨w1.heap.size, 0, none⟩ (by simp; omega) ag3).trans (t5 _)
             have HO8 := Lib.hid hown8
             have HG8 := Lib.hid hgrow
             have HA8 := Lib.hid hat8
             clear hown8 hat8))
      all_goals
        go_wp2
        go_roundw
        case rel =>
          have hnx := OwnSt.next (w1 := (wr.alloc (.cells #[.slice pa nd.ptrs.length pc, .slice da nd.data.length dc] 32)).drew) HI.out HK.out ⟨rfl, rfl, rfl, rfl⟩ HG6.out HO6.out HB6.out HG7.out HO7.out HA7.out HG8.out HO8.out HA8.out
          exact ⟨k + 1, _, _, by go_num, by omega, by rw [cell_of_row _ _ _ _ _ _ hnx.blk3]; rfl, frz_of hnx.blk3, Lib.hid hnx⟩
        case measure => simp [intOf]; omega
    · have hkn : k = n := by omega
      have h31 : wr.cell? ⟨w1.heap.size, 1, none⟩ = some (.slice ra g.roots.length rc) := by rw [cell_of_row _ _ _ _ _ _ HI.out.blk3]; rfl
      have h20 : wr.cell? ⟨w.heap.size + 1, 0, none⟩ = some (.slice none 0 0) := by rw [cell_of_row _ _ _ _ _ _ HI.out.blk2]; rfl
      have h21 : wr.cell? ⟨w.heap.size + 1, 1, none⟩ = some (.slice none 0 0) := by rw [cell_of_row _ _ _ _ _ _ HI.out.blk2]; rfl
      have f20 : wr.frozen? ⟨w.heap.size + 1, 0, none⟩ = false := frz_of HI.out.blk2
      have f21 : wr.frozen? ⟨w.heap.size + 1, 1, none⟩ = false := frz_of HI.out.blk2
      have hgn : k = g.nodes.length := by have := HN.out; omega
      have HGN := Lib.hid hgn
      obtain ⟨na, nc, hnv⟩ : ∃ a c, nv = .slice a k c := own_form HI.out.nodes
      subst hnv
      clear hkn hgn
      have hfin : ∀ u v : Value, (((wr.setCell ⟨w.heap.size + 1, 0, none⟩ u).setCell ⟨w.heap.size + 1, 1, none⟩ v).cell? ⟨w.heap.size + 1, 0, none⟩ = some u ∧ ((wr.setCell ⟨w.heap.size + 1, 0, none⟩ u).setCell ⟨w.heap.size + 1, 1, none⟩ v).cell? ⟨w.heap.size + 1, 1, none⟩ = some v) := by
        intro u v
        have hb : ((wr.setCell ⟨w.heap.size + 1, 0, none⟩ u).setCell ⟨w.heap.size + 1, 1, none⟩ v).heap[w.heap.size + 1]? = some (.cells #[u, v] 25 (0, 0)) := by
          simp [World.setCell, Array.getElem?_modify, HI.out.blk2]
        constructor
        · rw [cell_of_row _ _ _ _ _ _ hb]; rfl
        · rw [cell_of_row _ _ _ _ _ _ hb]; rfl
      go_wp2
      have hfA := (hfin (.slice na k nc) (.slice ra g.roots.length rc)).1
      have hfB := (hfin (.slice na k nc) (.slice ra g.roots.length rc)).2
      refine bodyPost_ret (v := .agg #[.slice na k nc, .slice ra g.roots.length rc]) (by simp [results, Try.results54, go_sem, hfA, hfB]) rfl ⟨_, _, xs, rfl, ?_, ?_⟩
      · exact (HI.out.below.setCell (by simp) _).setCell (by simp) _
      · exact HI.out.done HGN.out fun b hb => by
          rw [Below.heap_setCell _ _ _ _ (by simpa using hb), Below.heap_setCell _ _ _ _ (by simpa using hb)]
end Vm
