/-
  graph.work.fresh, walked by hand.
-/
import Derived.Test.YtbmgnmjghhakhaaDc
import Derived.Test.YtbmgnmjghhakhaaDe
import Derived.Deep.RegionLaw
import Derived.Deep.OwnRows
import Derived.Lib.Hide
namespace Vm
open Go Go.Proofs Go.RowKit
set_option maxHeartbeats 4000000
set_option maxRecDepth 100000
set_option linter.unusedSimpArgs false
set_option linter.unusedVariables false
/-- what a deed leaves: a graph in lists of the call's own -/
structure GHas (B : Nat) (w : World) (g : Gr) (nv rv : Value) (xs : List Value) : Prop where
  roots : w.ownsRow B 3 1 rv g.roots.length (nums .i64 g.roots)
  nodes : w.ownsRow B 32 2 nv g.nodes.length xs
  inner : NodesOwn w B g.nodes xs
theorem GOwn.has {B : Nat} {w : World} {g : Gr} {nv rv : Value} {xs : List Value} (h : GOwn B w g nv rv xs) : GHas B w g nv rv xs := ⟨h.roots, h.nodes, h.inner⟩
/-- the block that the deed works on -/
structure Wk (B : Nat) (w : World) (b : Nat) (g : Gr) (a : Ac) (nv rv : Value) (xs : List Value) : Prop where
  ge : B ≤ b
  blk : w.heap[b]? = some (.cells #[nv, rv, .int .i64 a.kind, .int .i64 a.r, .int .i64 a.s, .int .i64 a.i, .int .i64 a.size, .int .i64 a.ptrs, .int .u64 a.v] 86 (0, 0))
  own : GOwn B w g nv rv xs
  apart : ∀ o ∈ rv.ownBlock :: nv.ownBlock :: xs.map Value.ownBlock, o ≠ some b
theorem Wk.rn {B : Nat} {w : World} {b br n rc : Nat} {g : Gr} {a : Ac} {nv : Value} {xs : List Value} (h : Wk B w b g a nv (.slice (some ⟨br, 0, none⟩) n rc) xs) : nv.ownBlock ≠ some br := by
  have := h.own.apart
  simp only [Apart, List.pairwise_cons] at this
  exact this.1 nv.ownBlock (by simp) br rfl
theorem Wk.rx {B : Nat} {w : World} {b br n rc : Nat} {g : Gr} {a : Ac} {nv : Value} {xs : List Value} (h : Wk B w b g a nv (.slice (some ⟨br, 0, none⟩) n rc) xs) : ∀ x ∈ xs, x.ownBlock ≠ some br := by
  have := h.own.apart
  simp only [Apart, List.pairwise_cons] at this
  exact fun x hx => this.1 x.ownBlock (by simp only [List.mem_cons, List.mem_map]; exact .inr ⟨x, hx, rfl⟩) br rfl
theorem Wk.nx {B : Nat} {w : World} {b : Nat} {g : Gr} {a : Ac} {nv rv : Value} {xs : List Value} (h : Wk B w b g a nv rv xs) : ∀ x ∈ xs, ∀ c, nv.ownBlock = some c → x.ownBlock ≠ some c := by
  have := h.own.apart
  simp only [Apart, List.pairwise_cons] at this
  exact fun x hx c hc => this.2.1 x.ownBlock (List.mem_map.2 ⟨x, hx, rfl⟩) c hc
theorem own_lower {w : World} {B B' : Nat} {e : TypeId} {z n : Nat} {v : Value} {xs : List Value} (h : w.ownsRow B e z v n xs) (hB : B' ≤ B) : w.ownsRow B' e z v n xs := by
  refine ⟨h.1, ?_⟩
  rcases h.2 with h2 | ⟨g, cap, cur, hv, hb, h3⟩
  · exact .inl h2
  · exact .inr ⟨g, cap, cur, hv, Nat.le_trans hB hb, h3⟩
theorem nums_set (k : IntKind) (l : List Int) (i : Nat) (x : Int) : nums k (l.set i x) = (nums k l).set i (.int k x) := by unfold nums; rw [List.map_set]
theorem infoU : (Try.prog.info? 28).map (fun i => (i.zero, i.size, i.bytes)) = some (some (.int .u64 0), 1, 8) := by kernel_rfl
theorem infoI : (Try.prog.info? 3).map (fun i => (i.zero, i.size, i.bytes)) = some (some (.int .i64 0), 1, 8) := by kernel_rfl
theorem infoNd : (Try.prog.info? 32).map (fun i => (i.zero, i.size, i.bytes)) = some (some (.agg #[.slice none 0 0, .slice none 0 0]), 2, 48) := by kernel_rfl
structure FrSt (w wr : World) (n5 k d : Nat) (pv dv : Value) : Prop where
  below : Below w.heap.size w wr
  ge : w.heap.size ≤ n5
  blk : wr.heap[n5]? = some (.cells #[pv, dv] 32 (0, 0))
  ptrs : wr.ownsRow w.heap.size 3 1 pv k (nums .i64 (List.replicate k (-1)))
  data : wr.ownsRow w.heap.size 28 1 dv d (nums .u64 (List.replicate d 0))
  a1 : pv.ownBlock ≠ some n5
  a2 : dv.ownBlock ≠ some n5
  a3 : ∀ c, pv.ownBlock = some c → dv.ownBlock ≠ some c
theorem FrSt.next {w wr w8 : World} {n5 k d gg cap : Nat} {pv dv : Value} {X : Obj} (h : FrSt w wr n5 k d pv dv)
    (h8 : (wr.alloc X).grownBy w8 pv.ownBlock) (o8 : w8.ownsRow w.heap.size 3 1 (.slice (some ⟨gg, 0, none⟩) (k + 1) cap) (k + 1) (nums .i64 (List.replicate k (-1)) ++ [.int .i64 (-1)])) (a8 : pv.ownBlock = some gg ∨ gg = wr.heap.size + 1) :
    FrSt w (w8.setCell ⟨n5, 0, none⟩ (.slice (some ⟨gg, 0, none⟩) (k + 1) cap)) n5 (k + 1) d (.slice (some ⟨gg, 0, none⟩) (k + 1) cap) dv := by
  have hn := heap_lt h.blk
  have hsz := h.below.size
  have hd : ∀ c, dv.ownBlock = some c → c < wr.heap.size := fun c hc => (h.data.lt c hc).2
  have hgg : gg ≠ n5 := by
    rcases a8 with a8 | a8
    · exact fun e => h.a1 (by rw [a8, e])
    · omega
  have e : nums .i64 (List.replicate k (-1)) ++ [Value.int .i64 (-1)] = nums .i64 (List.replicate (k + 1) (-1)) := by simp [nums, List.replicate_succ']
  rw [e] at o8
  refine ⟨?_, h.ge, ?_, ?_, ?_, by simpa [Value.ownBlock] using hgg, h.a2, ?_⟩
  · exact ((h.below.alloc (by omega) X).grown h8 (by simp; omega) (fun b hb => (h.ptrs.lt b hb).1)).setCell h.ge _
  · have q : w8.heap[n5]? = some (.cells #[pv, dv] 32 (0, 0)) := by
      rw [h8.block n5 (by simp; omega) (fun e => h.a1 e.symm), Below.heap_alloc _ _ _ hn]; exact h.blk
    simp only [World.setCell, Array.getElem?_modify, if_true, q, Option.map_some]
    rfl
  · exact owns_block o8 fun b hb => by
      cases hb
      rw [Below.heap_setCell _ _ _ _ (by simpa using hgg)]
  · exact owns_block h.data fun b hb => by
      have := hd b hb
      rw [Below.heap_setCell _ _ _ _ (by simp; exact fun e => h.a2 (by rw [hb, e])), h8.block b (by simp; omega) (fun e => h.a3 b e.symm hb), Below.heap_alloc _ _ _ this]
  · intro c hc
    cases hc
    rcases a8 with a8 | a8
    · exact h.a3 gg a8
    · intro e
      have := hd gg e
      omega
structure W10 (w2 : World) (br r m : Nat) (w10 : World) : Prop where
  heap : w10.heap = (w2.setCell ⟨br, r, none⟩ (.int .i64 (m : Int))).heap
  os : w10.os = w2.os
  tape : w10.tape = w2.tape
  output : w10.output = w2.output
theorem fresh_end {w wr w2 w10 w10' w8 : World} {B b n5 br rc gg cap k d : Nat} {g : Gr} {a : Ac} {nv pv dv : Value} {xs : List Value} {X : Obj}
    (hW : Wk B w b g a nv (.slice (some ⟨br, 0, none⟩) g.roots.length rc) xs) (HI : FrSt w wr n5 k d pv dv) (hB : B ≤ w.heap.size) (hr0 : 0 ≤ a.r) (hr1 : a.r < (g.roots.length : Int)) (hd : Dr wr w2) (h10 : W10 w2 br a.r.toNat g.nodes.length w10)
    (hq : a.ptrs = (k : Int)) (hdz : a.size - a.ptrs = (d : Int)) (hd' : Dr w10 w10')
    (h8 : (w10'.alloc X).grownBy w8 nv.ownBlock) (o8 : w8.ownsRow B 32 2 (.slice (some ⟨gg, 0, none⟩) (g.nodes.length + 1) cap) (g.nodes.length + 1) (xs ++ [pv, dv])) (a8 : nv.ownBlock = some gg ∨ gg = w10.heap.size + 1) :
    Below B w (w8.setCell ⟨b, 0, none⟩ (.slice (some ⟨gg, 0, none⟩) (g.nodes.length + 1) cap)) ∧ ∃ nv' pv dv, (w8.setCell ⟨b, 0, none⟩ (.slice (some ⟨gg, 0, none⟩) (g.nodes.length + 1) cap)).cell? ⟨b, 0, none⟩ = some nv' ∧
      (w8.setCell ⟨b, 0, none⟩ (.slice (some ⟨gg, 0, none⟩) (g.nodes.length + 1) cap)).cell? ⟨b, 1, none⟩ = some (.slice (some ⟨br, 0, none⟩) g.roots.length rc) ∧
      GHas B (w8.setCell ⟨b, 0, none⟩ (.slice (some ⟨gg, 0, none⟩) (g.nodes.length + 1) cap)) ⟨g.nodes ++ [freshNd a.size a.ptrs], g.roots.set a.r.toNat g.nodes.length⟩ nv' (.slice (some ⟨br, 0, none⟩) g.roots.length rc) (xs ++ [pv, dv]) := by
  have hbs := heap_lt hW.blk
  have hbr := hW.own.roots.lt br rfl
  have hrn := hW.rn
  have hbbr : br ≠ b := fun e => hW.apart (some br) (by simp [Value.ownBlock]) (by rw [e])
  have hsz := HI.below.size
  have z2 : w2.heap.size = wr.heap.size := by rw [hd.heap]
  have z10 : w10.heap.size = wr.heap.size := by rw [h10.heap]; simp [World.setCell, z2]
  have z10' : w10'.heap.size = wr.heap.size := by rw [hd'.heap, z10]
  have hnb : ∀ c, nv.ownBlock = some c → c < w.heap.size := fun c hc => (hW.own.nodes.lt c hc).2
  have hgg : gg ≠ b := by
    rcases a8 with a8 | a8
    · exact fun e => hW.apart nv.ownBlock (by simp) (by rw [a8, e])
    · omega
  have up : ∀ c, c < wr.heap.size → nv.ownBlock ≠ some c → c ≠ b → (w8.setCell ⟨b, 0, none⟩ (.slice (some ⟨gg, 0, none⟩) (g.nodes.length + 1) cap)).heap[c]? = (w2.setCell ⟨br, a.r.toNat, none⟩ (.int .i64 (g.nodes.length : Int))).heap[c]? := by
    intro c hc hn hb
    rw [Below.heap_setCell _ _ _ _ (by simpa using hb), h8.block c (by simp; omega) (fun e => hn e.symm), Below.heap_alloc _ _ _ (by omega), hd'.heap, h10.heap]
  have old : ∀ c, c < wr.heap.size → c ≠ br → nv.ownBlock ≠ some c → c ≠ b → (w8.setCell ⟨b, 0, none⟩ (.slice (some ⟨gg, 0, none⟩) (g.nodes.length + 1) cap)).heap[c]? = wr.heap[c]? := by
    intro c hc h1 hn hb
    rw [up c hc hn hb, Below.heap_setCell _ _ _ _ (by simpa using h1), hd.heap]
  have hblk : (w8.setCell ⟨b, 0, none⟩ (.slice (some ⟨gg, 0, none⟩) (g.nodes.length + 1) cap)).heap[b]? = some (.cells #[.slice (some ⟨gg, 0, none⟩) (g.nodes.length + 1) cap, .slice (some ⟨br, 0, none⟩) g.roots.length rc, .int .i64 a.kind, .int .i64 a.r, .int .i64 a.s, .int .i64 a.i, .int .i64 a.size, .int .i64 a.ptrs, .int .u64 a.v] 86 (0, 0)) := by
    have q : w8.heap[b]? = w.heap[b]? := by
      rw [h8.block b (by simp; omega) (fun e => hW.apart nv.ownBlock (by simp) e.symm), Below.heap_alloc _ _ _ (by omega), hd'.heap, h10.heap, Below.heap_setCell _ _ _ _ (by simpa using hbbr.symm), hd.heap, HI.below.block b hbs]
    simp only [World.setCell, Array.getElem?_modify, if_true, q, hW.blk, Option.map_some]
    rfl
  have hB10 : Below B w w10' := by
    refine ⟨?_, ?_, ?_, by omega, fun c hc => ?_⟩
    · rw [hd'.os, h10.os, hd.os, HI.below.os]
    · rw [hd'.tape, h10.tape, hd.tape, HI.below.tape]
    · rw [hd'.output, h10.output, hd.output, HI.below.output]
    · rw [hd'.heap, h10.heap, Below.heap_setCell _ _ _ _ (by simp; omega), hd.heap, HI.below.block c (by omega)]
  refine ⟨((hB10.alloc (by omega) X).grown h8 (by simp; omega) (fun c hc => (hW.own.nodes.lt c hc).1)).setCell hW.ge _, .slice (some ⟨gg, 0, none⟩) (g.nodes.length + 1) cap, pv, dv, ?_, ?_, ?_⟩
  · rw [cell_of_row _ _ _ _ _ _ hblk]; rfl
  · rw [cell_of_row _ _ _ _ _ _ hblk]; rfl
  have hp : (freshNd a.size a.ptrs).ptrs = List.replicate k (-1) := by simp [freshNd, hq]
  have hdt : (freshNd a.size a.ptrs).data = List.replicate d 0 := by simp [freshNd, hdz]
  have hpn : ∀ c, pv.ownBlock = some c → w.heap.size ≤ c ∧ c < wr.heap.size := fun c hc => HI.ptrs.lt c hc
  have hdn : ∀ c, dv.ownBlock = some c → w.heap.size ≤ c ∧ c < wr.heap.size := fun c hc => HI.data.lt c hc
  refine ⟨?_, ?_, ?_⟩
  · have h0 : w2.ownsRow B 3 1 (.slice (some ⟨br, 0, none⟩) g.roots.length rc) g.roots.length (nums .i64 g.roots) := owns_block hW.own.roots fun c hc => by
      cases hc
      rw [hd.heap, HI.below.block br hbr.2]
    have h1 := (h0.stored a.r.toNat (.int .i64 (g.nodes.length : Int))).1
    rw [← nums_set] at h1
    simp only [List.length_set]
    exact owns_block h1 fun c hc => by
      cases hc
      exact up br (by omega) hrn hbbr
  · simp only [List.length_append, List.length_cons, List.length_nil, Nat.zero_add]
    exact owns_block o8 fun c hc => by
      cases hc
      rw [Below.heap_setCell _ _ _ _ (by simpa using hgg)]
  · refine NodesOwn.snoc ?_ ?_ (hW.own.inner.keep fun x hx c hc => ?_)
    · rw [hp, List.length_replicate]
      exact owns_block (own_lower HI.ptrs hB) fun c hc => by
        have := hpn c hc
        exact old c this.2 (by omega) (fun e => by have := hnb c e; omega) (by omega)
    · rw [hdt, List.length_replicate]
      exact owns_block (own_lower HI.data hB) fun c hc => by
        have := hdn c hc
        exact old c this.2 (by omega) (fun e => by have := hnb c e; omega) (by omega)
    · have hcl := (hW.own.inner.lt x hx c hc).2
      rw [old c (by omega) (fun e => hW.rx x hx (by rw [hc, e])) (fun e => hW.nx x hx c e hc) (fun e => hW.apart x.ownBlock (by simp only [List.mem_cons, List.mem_map]; exact .inr (.inr ⟨x, hx, rfl⟩)) (by rw [hc, e])), HI.below.block c hcl]
theorem hdr_calls (w : World) (s p : Int) : Calls Try.prog 70 #[.agg #[.int .i64 s, .int .i64 p]] w fun e w' => e = .returned (.bool (shapeOk s p)) ∧ Below w.heap.size w w' := by
  refine Calls.mono ((hdrRight_vc (s := s) (p := p)).2 w (fun _ => False) _ (by simp) (by simp) ?_) ?_
  · intro i x hx
    match i, hx with
    | 0, hx =>
      cases hx
      refine .agg _ _ rfl (by simp [V.one]) ?_
      intro i x hx
      match i, hx with
      | 0, hx => cases hx; exact .int _ _
      | 1, hx => cases hx; exact .int _ _
  · rintro e w' ⟨v, rfl, hb, hr⟩
    cases hr
    exact ⟨rfl, hb⟩
def FreshPost (B : Nat) (w : World) (b : Nat) (g : Gr) (a : Ac) (rv : Value) (xs : List Value) (e : Ending) (w' : World) : Prop :=
  (shapeOk a.size a.ptrs = false ∧ e = .returned (.tuple #[.int .u64 0, .int .i64 1]) ∧ Below w.heap.size w w') ∨
  (shapeOk a.size a.ptrs = true ∧ e = .returned (.tuple #[.int .u64 0, .int .i64 0]) ∧ Below B w w' ∧ ∃ nv' pv dv, w'.cell? ⟨b, 0, none⟩ = some nv' ∧ w'.cell? ⟨b, 1, none⟩ = some rv ∧
    GHas B w' ⟨g.nodes ++ [freshNd a.size a.ptrs], g.roots.set a.r.toNat g.nodes.length⟩ nv' rv (xs ++ [pv, dv]))
theorem fresh_walk (w : World) (B b : Nat) (g : Gr) (a : Ac) (nv rv : Value) (xs : List Value) (hw : Wk B w b g a nv rv xs) (hB : B ≤ w.heap.size) (hr0 : 0 ≤ a.r) (hr1 : a.r < (g.roots.length : Int)) (hnb : g.nodes.length ≤ 100000) (hrb : g.roots.length ≤ 100000) :
    Calls Try.prog 63 #[.pointer (some ⟨b, 0, none⟩)] w (FreshPost B w b g a rv xs) := by
  obtain ⟨i32, hi32, hz32, hs32, hb32⟩ := info_parts infoNd
  obtain ⟨iI, hiI, hzI, hsI, hbI⟩ := info_parts infoI
  obtain ⟨br, rc, hrv, hbr1, hbr2⟩ := hw.own.roots.form (by omega)
  subst hrv
  obtain ⟨na, nc, hnv⟩ := own_form hw.own.nodes
  subst hnv
  have HW := Lib.hid hw
  have hbs : b < w.heap.size := heap_lt hw.blk
  have cS : w.cell? ⟨b, 6, none⟩ = some (.int .i64 a.size) := by rw [cell_of_row _ _ _ _ _ _ hw.blk]; rfl
  have cP : w.cell? ⟨b, 7, none⟩ = some (.int .i64 a.ptrs) := by rw [cell_of_row _ _ _ _ _ _ hw.blk]; rfl
  clear hw
  go_enter Try.func63, Try.ntmps63
  have HH := Lib.hid (hdr_calls (w.alloc (.cells #[.int .i64 a.size, .int .i64 a.ptrs] 39)) a.size a.ptrs)
  go_wp2_with fail
  refine HH.out.mono ?_
  rintro e w1 ⟨rfl, hbel⟩
  have HB1 := Lib.hid hbel
  have z1 : w.heap.size + 1 ≤ w1.heap.size := by have := hbel.size; simpa using this
  have c40 : w1.cell? ⟨w.heap.size, 0, none⟩ = some (.int .i64 a.size) := by
    rw [hbel.cell (by simp), World.cell?_of_block (w := (w.alloc (.cells #[.int .i64 a.size, .int .i64 a.ptrs] 39))) rfl, cell_of_row _ _ _ _ _ _ (heap_alloc_new w _)]; rfl
  have c41 : w1.cell? ⟨w.heap.size, 1, none⟩ = some (.int .i64 a.ptrs) := by
    rw [hbel.cell (by simp), World.cell?_of_block (w := (w.alloc (.cells #[.int .i64 a.size, .int .i64 a.ptrs] 39))) rfl, cell_of_row _ _ _ _ _ _ (heap_alloc_new w _)]; rfl
  clear hbel cS cP
  cases hs : shapeOk a.size a.ptrs
  · go_wp2
    go_ret2
    exact .inl ⟨hs, rfl, ((Below.refl _ w).alloc (Nat.le_refl _) _).trans (HB1.out.mono (by simp))⟩
  · obtain ⟨s1, s2, s3, s4⟩ := shapeOk_iff.1 hs
    obtain ⟨q, hq⟩ := Int.eq_ofNat_of_zero_le s3
    obtain ⟨d, hd⟩ := Int.eq_ofNat_of_zero_le (show 0 ≤ a.size - a.ptrs by omega)
    have hdz : a.size - (q : Int) = (d : Int) := by omega
    have hmk : ∀ W : World, (Instr.makeSlice 30 (.int .i64 (d : Int)) (.int .i64 (d : Int))).run Try.prog W = .ok (.slice (some ⟨W.heap.size, 0, none⟩) d d) (W.alloc (.cells (madeCells #[.int .u64 0] d) 28)) := fun W => by
      exact run_make_row' (P := Try.prog) 30 28 (.int .u64 0) 8 Try.underlying30 infoU rfl .i64 .i64 d (by omega) (by omega) W
    have c41' : ∀ X Y, ((w1.alloc X).alloc Y).cell? ⟨w.heap.size, 1, none⟩ = some (.int .i64 (q : Int)) := fun X Y => by
      rw [World.cell?_alloc_lt _ _ _ (by simp; omega), World.cell?_alloc_lt _ _ _ (by simp; omega), c41, hq]
    go_wp2
    clear hmk c41'
    go_loopw [23] (fun i wr => ∃ k pv, i = .int .i64 (k : Nat) ∧ k ≤ q ∧ wr.cell? ⟨w1.heap.size + 1, 0, none⟩ = some pv ∧ wr.frozen? ⟨w1.heap.size + 1, 0, none⟩ = false ∧ Hid (FrSt w wr (w1.heap.size + 1) k d pv (.slice (some ⟨w1.heap.size, 0, none⟩) d d)))
      (fun i _ => q - (intOf i).toNat)
    case atStart =>
      refine ⟨0, .slice none 0 0, rfl, Nat.zero_le _, by simp, by simp, Lib.hid ?_⟩
      have hb := ((Below.refl w.heap.size w).alloc (Nat.le_refl _) (.cells #[.int .i64 a.size, .int .i64 a.ptrs] 39)).trans (HB1.out.mono (by simp))
      refine ⟨?_, by omega, ?_, World.ownsRow_nil _ _ _ _, ?_, by simp [Value.ownBlock], by simp [Value.ownBlock], by simp [Value.ownBlock]⟩
      · exact (hb.alloc (by omega) _).alloc (by simp; omega) _
      · simpa using heap_alloc_new (w1.alloc (.cells (madeCells #[.int .u64 0] d) 28)) (.cells #[.slice none 0 0, .slice (some ⟨w1.heap.size, 0, none⟩) d d] 32)
      · have h0 := World.ownsRow_lit (e := 28) (size := 1) (base := w.heap.size) w1 (madeCells #[.int .u64 0] d) d (by omega) (by unfold maxLen; omega) (by simp [madeCells])
        have h1 : (madeCells #[Value.int .u64 0] d).toList = nums .u64 (List.replicate d 0) := by rw [toList_madeCells_one]; simp [nums]
        rw [h1] at h0
        exact owns_block h0 fun b hb => by cases hb; exact Below.heap_alloc _ _ _ (by simp)
    case round =>
      obtain ⟨k, pv, rfl, hk, hc, hf, HI⟩ := hrel
      have hws := HI.out.below.size
      by_cases hlt : k < q
      · obtain ⟨pa, pc, hpv⟩ := own_form HI.out.ptrs
        subst hpv
        have hn5 : w1.heap.size + 1 < wr.heap.size := heap_lt HI.out.blk
        have hc' : ∀ X, (wr.alloc X).cell? ⟨w1.heap.size + 1, 0, none⟩ = some (.slice pa k pc) := fun X => by rw [World.cell?_alloc_lt _ _ _ (by simpa using hn5)]; exact hc
        have hf' : ∀ X, (wr.alloc X).frozen? ⟨w1.heap.size + 1, 0, none⟩ = false := fun X => by rw [World.frozen?_alloc_old _ _ _ (by simp; omega)]; exact hf
        have ag : some (w1.heap.size + 1) ≠ (Value.slice pa k pc).ownBlock := fun e => HI.out.a1 e.symm
        go_wp2_with (at_builtin; refine wpList_append_lies _ rfl _ _ 23 (by rfl) w.heap.size 3 iI _ 1 8 Try.underlying23 hiI hzI hsI hbI rfl (by omega) (.slice pa k pc) k (nums .i64 (List.replicate k (-1))) (by rfl) (owns_block HI.out.ptrs (fun b hb => Below.heap_alloc wr _ b (HI.out.ptrs.lt b hb).2)) ⟨wr.heap.size, 0, none⟩ 1 1 [.int .i64 (-1)] (by rfl) (by rfl) (World.news_of_block (cs := #[.int .i64 (-1)]) (t := 3) (fr := (0, 0)) (heap_alloc_new wr _)) (by simp [Value.oneCell']) (by omega) (by unfold maxLen; omega) (by omega) (by simp; omega) (wr.heap.size + 1) (by simp) ?_)
        intro gg cap w8 hown8 hgrow hat8 hlt8
        have u1 : w8.cell? ⟨w1.heap.size + 1, 0, none⟩ = some (.slice pa k pc) := (hgrow.cell_far ⟨w1.heap.size + 1, 0, none⟩ (by simp; omega) ag).trans (hc' _)
        have u2 : w8.frozen? ⟨w1.heap.size + 1, 0, none⟩ = false := (hgrow.frozen_far ⟨w1.heap.size + 1, 0, none⟩ (by simp; omega) ag).trans (hf' _)
        have HN := Lib.hid (HI.out.next hgrow hown8 hat8)
        clear hown8 hat8 hgrow
        go_wp2
        go_roundw
        case rel =>
          have hnx := HN.out
          exact ⟨k + 1, _, by go_num, by omega, by rw [cell_of_row _ _ _ _ _ _ hnx.blk]; rfl, frz_of hnx.blk, Lib.hid hnx⟩
        case measure => simp [intOf]; omega
      · have hkq : k = q := by omega
        subst hkq
        have hn5 : w1.heap.size + 1 < wr.heap.size := heap_lt HI.out.blk
        have e0 : wr.cell? ⟨b, 0, none⟩ = some (.slice na g.nodes.length nc) := (HI.out.below.cell (by exact hbs)).trans (by rw [cell_of_row _ _ _ _ _ _ HW.out.blk]; rfl)
        have e1 : wr.cell? ⟨b, 1, none⟩ = some (.slice (some ⟨br, 0, none⟩) g.roots.length rc) := (HI.out.below.cell (by exact hbs)).trans (by rw [cell_of_row _ _ _ _ _ _ HW.out.blk]; rfl)
        have e3 : wr.cell? ⟨b, 3, none⟩ = some (.int .i64 a.r) := (HI.out.below.cell (by exact hbs)).trans (by rw [cell_of_row _ _ _ _ _ _ HW.out.blk]; rfl)
        have ec : wr.cell? ⟨br, a.r.toNat, none⟩ = some (.int .i64 (g.roots[a.r.toNat]'(by omega))) := by
          rw [HI.out.below.cell (by exact hbr2), HW.out.own.roots.cellAt _ (by omega)]
          simp [nums, show a.r.toNat < g.roots.length by omega]
        have ef : wr.frozen? ⟨br, a.r.toNat, none⟩ = false := by
          rw [HI.out.below.frozen (by exact hbr2)]; exact HW.out.own.roots.frozenAt _
        go_wp2
        go_still_tail 17, (by kernel_rfl)
        change wpList _ _ _ _ _ wr.drew
        have hd2 : Dr wr wr.drew := (Dr.refl wr).drew
        rw [← hd2.cell] at e0 e1 e3 ec
        rw [← hd2.frozen] at ef
        have HD := Lib.hid hd2
        clear hd2
        generalize wr.drew = w2 at *
        go_wp2_with fail
        have hx : ∀ c, c ≠ br → (w2.setCell ⟨br, a.r.toNat, none⟩ (.int .i64 (g.nodes.length : Int))).heap[c]? = wr.heap[c]? := fun c hc => by
          rw [Below.heap_setCell _ _ _ _ (by simpa using hc), HD.out.heap]
        have hW10 := Lib.hid (show W10 w2 br a.r.toNat g.nodes.length (w2.setCell ⟨br, a.r.toNat, none⟩ (.int .i64 (g.nodes.length : Int))) from ⟨rfl, rfl, rfl, rfl⟩)
        have hsz10 : wr.heap.size ≤ (w2.setCell ⟨br, a.r.toNat, none⟩ (.int .i64 (g.nodes.length : Int))).heap.size := by simp [World.setCell, HD.out.heap]
        generalize w2.setCell ⟨br, a.r.toNat, none⟩ (.int .i64 (g.nodes.length : Int)) = w10 at *
        have hbbr : b ≠ br := fun e => HW.out.apart (some br) (by simp [Value.ownBlock]) (by rw [e])
        have hn5br : w1.heap.size + 1 ≠ br := by omega
        have b10 : w10.heap[b]? = w.heap[b]? := (hx b hbbr).trans (HI.out.below.block b hbs)
        have f0 : w10.cell? ⟨b, 0, none⟩ = some (.slice na g.nodes.length nc) := by rw [cell_of_row _ _ _ _ _ _ (b10.trans HW.out.blk)]; rfl
        have ff0 : w10.frozen? ⟨b, 0, none⟩ = false := frz_of (b10.trans HW.out.blk)
        have n10 := (hx _ hn5br).trans HI.out.blk
        have f5 : w10.cell? ⟨w1.heap.size + 1, 0, none⟩ = some pv := by rw [cell_of_row _ _ _ _ _ _ n10]; rfl
        have f6 : w10.cell? ⟨w1.heap.size + 1, 1, none⟩ = some (.slice (some ⟨w1.heap.size, 0, none⟩) d d) := by rw [cell_of_row _ _ _ _ _ _ n10]; rfl
        obtain ⟨pa, pc, hpv⟩ := own_form HI.out.ptrs
        subst hpv
        have own10 : w10.ownsRow B 32 2 (.slice na g.nodes.length nc) g.nodes.length xs := owns_block HW.out.own.nodes fun c hc => (hx c fun e => HW.out.rn (by rw [← e, hc])).trans (HI.out.below.block c (HW.out.own.nodes.lt c hc).2)
        have hO10 := Lib.hid own10
        have hgb : some b ≠ (Value.slice na g.nodes.length nc).ownBlock := fun e => HW.out.apart _ (by simp) e.symm
        have hb10 : b < w10.heap.size := by omega
        have hB10 : B ≤ w10.heap.size := by omega
        clear own10 n10 b10 hx hn5br
        go_region_law
          (refine step_append_lies _ rfl _ _ 22 (by rfl) B 32 i32 _ 2 48 Try.underlying22 hi32 hz32 hs32 hb32 rfl (by omega) (.slice na g.nodes.length nc) g.nodes.length xs (by rfl)
              (owns_block hO10.out (fun c hc => Below.heap_alloc _ _ _ (hO10.out.lt c hc).2))
              ⟨w10.heap.size, 0, none⟩ 1 1 [.slice pa k pc, .slice (some ⟨w1.heap.size, 0, none⟩) d d] (by rfl) (by rfl) (World.news_of_block (cs := #[.slice pa k pc, .slice (some ⟨w1.heap.size, 0, none⟩) d d]) (t := 32) (fr := (0, 0)) (heap_alloc_new _ _)) (by simp [Value.oneCell'])
              (by omega) (by unfold maxLen; omega) (by omega) (by simp; omega) (w10.heap.size + 1) (by simp) ?_
           intro gg cap w8 hown8 hgrow hat8 hlt8
           have u1 : w8.cell? ⟨b, 0, none⟩ = some (.slice na g.nodes.length nc) := (hgrow.cell_far ⟨b, 0, none⟩ (by simp; omega) hgb).trans ((World.cell?_alloc_lt _ _ _ hb10).trans f0)
           have u2 : w8.frozen? ⟨b, 0, none⟩ = false := (hgrow.frozen_far ⟨b, 0, none⟩ (by simp; omega) hgb).trans ((World.frozen?_alloc_old _ _ _ (by show b ≠ w10.heap.size; omega)).trans ff0)
           have HO8 := Lib.hid hown8
           have HG8 := Lib.hid hgrow
           have HA8 := Lib.hid hat8
           clear hown8 hat8)
        all_goals
          go_wp2
          go_ret2
          exact .inr ⟨hs, rfl, fresh_end HW.out HI.out hB hr0 hr1 HD.out hW10.out hq hd (w10' := w10.drew) ⟨rfl, rfl, rfl, rfl⟩ HG8.out HO8.out HA8.out⟩
end Vm
