/-
  graph.Do, walked by hand.
-/
import Derived.Test.YtbmgnmjghhakhaaDd
import Derived.Test.YtbmgnmjghhakhaaDi
import Derived.Deep.RegionWith
namespace Vm
open Go Go.Proofs Go.RowKit
set_option maxHeartbeats 4000000
set_option maxRecDepth 100000
set_option linter.unusedSimpArgs false
set_option linter.unusedVariables false
theorem Wk.made {w2 : World} {B : Nat} {g : Gr} {a : Ac} {nv rv : Value} {xs : List Value} (hB : B ≤ w2.heap.size) (ho : GOwn B w2 g nv rv xs) :
    Wk B (w2.alloc (.cells #[nv, rv, .int .i64 a.kind, .int .i64 a.r, .int .i64 a.s, .int .i64 a.i, .int .i64 a.size, .int .i64 a.ptrs, .int .u64 a.v] 86)) w2.heap.size g a nv rv xs := by
  have hlt : ∀ o ∈ rv.ownBlock :: nv.ownBlock :: xs.map Value.ownBlock, ∀ c, o = some c → c < w2.heap.size := by
    intro o h c hc
    subst hc
    simp only [List.mem_cons, List.mem_map] at h
    rcases h with h | h | ⟨x, hx, h⟩
    · exact (ho.roots.lt c h.symm).2
    · exact (ho.nodes.lt c h.symm).2
    · exact (ho.inner.lt x hx c h).2
  have hk : ∀ c, c < w2.heap.size → (w2.alloc (.cells #[nv, rv, .int .i64 a.kind, .int .i64 a.r, .int .i64 a.s, .int .i64 a.i, .int .i64 a.size, .int .i64 a.ptrs, .int .u64 a.v] 86)).heap[c]? = w2.heap[c]? := fun c hc => Below.heap_alloc _ _ _ hc
  refine ⟨hB, heap_alloc_new w2 _, ⟨owns_block ho.roots fun c hc => hk c (ho.roots.lt c hc).2, owns_block ho.nodes fun c hc => hk c (ho.nodes.lt c hc).2, ho.inner.keep fun x hx c hc => hk c (ho.inner.lt x hx c hc).2, ho.apart⟩, ?_⟩
  intro o ho' e
  have := hlt o ho' _ e
  omega
theorem nilGr {c : Int} (w : World) (G : Nat → Prop) : Rd w G (doV (0, noGr, c)) (.tuple #[.int .u64 0, .agg #[.slice none 0 0, .slice none 0 0], .int .i64 c]) := by
  refine .tup _ _ rfl fun i x hx => ?_
  match i, hx with
  | 0, hx => cases hx; exact .int _ _
  | 1, hx =>
    cases hx
    refine .agg _ _ rfl (fun c hc => by simp [noGr] at hc; rcases hc with rfl | rfl <;> rfl) fun i x hx => ?_
    match i, hx with
    | 0, hx => cases hx; exact .nil _ _ (by unfold maxLen; omega)
    | 1, hx => cases hx; exact .nil _ _ (by unfold maxLen; omega)
  | 2, hx => cases hx; exact .int _ _
theorem cells2 (w : World) (b : Nat) {T : TypeId} {x y : Value} (u v : Value) (h : w.heap[b]? = some (.cells #[x, y] T (0, 0))) :
    ((w.setCell ⟨b, 0, none⟩ u).setCell ⟨b, 1, none⟩ v).cell? ⟨b, 0, none⟩ = some u ∧ ((w.setCell ⟨b, 0, none⟩ u).setCell ⟨b, 1, none⟩ v).cell? ⟨b, 1, none⟩ = some v := by
  have hb : ((w.setCell ⟨b, 0, none⟩ u).setCell ⟨b, 1, none⟩ v).heap[b]? = some (.cells #[u, v] T (0, 0)) := by
    simp [World.setCell, Array.getElem?_modify, h]
  constructor
  · rw [cell_of_row _ _ _ _ _ _ hb]; rfl
  · rw [cell_of_row _ _ _ _ _ _ hb]; rfl
theorem doneGr {w : World} {B C b : Nat} {v : Int} {g : Gr} {nv rv : Value} {xs : List Value} (h : GHas B w g nv rv xs) {x y : Value} (hb : b < B) (hC : C ≤ B) :
    Rd ((w.setCell ⟨b, 0, none⟩ x).setCell ⟨b, 1, none⟩ y) (fun c => C ≤ c ∧ c < ((w.setCell ⟨b, 0, none⟩ x).setCell ⟨b, 1, none⟩ y).heap.size) (doV (v, g, 0)) (.tuple #[.int .u64 v, .agg #[nv, rv], .int .i64 0]) := by
  have hk : ∀ c, B ≤ c → ((w.setCell ⟨b, 0, none⟩ x).setCell ⟨b, 1, none⟩ y).heap[c]? = w.heap[c]? := fun c hc => by
    rw [Below.heap_setCell _ _ _ _ (by simp; omega), Below.heap_setCell _ _ _ _ (by simp; omega)]
  have h' : GHas B ((w.setCell ⟨b, 0, none⟩ x).setCell ⟨b, 1, none⟩ y) g nv rv xs :=
    ⟨owns_block h.roots fun c hc => hk c (h.roots.lt c hc).1, owns_block h.nodes fun c hc => hk c (h.nodes.lt c hc).1, h.inner.keep fun z hz c hc => hk c (h.inner.lt z hz c hc).1⟩
  refine .tup _ _ rfl fun i z hz => ?_
  match i, hz with
  | 0, hz => cases hz; exact .int _ _
  | 1, hz => cases hz; exact h'.rd fun c h1 h2 => ⟨by omega, h2⟩
  | 2, hz => cases hz; exact .int _ _
theorem run_callFunc {P : Program} {f : FuncId} (hcb : callable P f = true) (args : Array Value) (W : World) : (callFunc f args).run P W = .ok (.enter f args) W := by
  unfold callable at hcb
  split at hcb
  · rename_i fn hfn
    simp only [Bool.and_eq_true, Bool.not_eq_true', beq_eq_false_iff_ne, ne_eq] at hcb
    obtain ⟨h1, h2⟩ := hcb
    obtain ⟨code, h3⟩ := Option.isSome_iff_exists.1 h2
    simp [callFunc, hfn, h1, h3]
  · cases hcb
theorem deedF_callable (k : Int) : callable Try.prog (deedF k) = true := by
  unfold deedF
  repeat' split
  all_goals kernel_rfl
def DoPost (w : World) (g : Gr) (a : Ac) (e : Ending) (w' : World) : Prop := ∃ v, e = .returned v ∧ Below w.heap.size w w' ∧ Rd w' (fun b => w.heap.size ≤ b ∧ b < w'.heap.size) (doV (doR g a)) v
theorem do_walk (w : World) (g : Gr) (a : Ac) (a0 : Option Addr) (c0 : Nat) (rv0 : Value) (hg : g.sm)
    (HR : Hid (∀ W : World, (∀ b, b < w.heap.size → W.heap[b]? = w.heap[b]?) → w.heap.size ≤ W.heap.size → Calls Try.prog 28 #[.agg #[.slice a0 g.nodes.length c0, rv0]] W fun e W' => e = .returned (.bool (right g)) ∧ Below W.heap.size W W'))
    (HO : Hid (∀ W : World, (∀ b, b < w.heap.size → W.heap[b]? = w.heap[b]?) → w.heap.size ≤ W.heap.size → Calls Try.prog 54 #[.agg #[.slice a0 g.nodes.length c0, rv0]] W (OwnPost W g))) :
    Calls Try.prog 35 #[.agg #[.slice a0 g.nodes.length c0, rv0], .agg #[.int .i64 a.kind, .int .i64 a.r, .int .i64 a.s, .int .i64 a.i, .int .i64 a.size, .int .i64 a.ptrs, .int .u64 a.v]] w (DoPost w g a) := by
  obtain ⟨hg1, hg2, hg3⟩ := id hg
  go_enter Try.func35, Try.ntmps35
  go_wp2_with fail
  refine (HR.out _ ?_ ?_).mono ?_
  · intro b hb
    rw [Below.heap_alloc _ _ _ (by simp; omega), Below.heap_alloc _ _ _ (by simp; omega), Below.heap_alloc _ _ _ hb]
  · simp; omega
  rintro e w1 ⟨rfl, hb1⟩
  have k2 : w1.heap[w.heap.size]? = some (.cells #[.slice a0 g.nodes.length c0, rv0] 25 (0, 0)) := by
    rw [hb1.block _ (by simp; omega), Below.heap_alloc _ _ _ (by simp; omega), Below.heap_alloc _ _ _ (by simp)]
    exact heap_alloc_new w _
  have k3 : w1.heap[w.heap.size + 1]? = some (.cells #[.int .i64 a.kind, .int .i64 a.r, .int .i64 a.s, .int .i64 a.i, .int .i64 a.size, .int .i64 a.ptrs, .int .u64 a.v] 41 (0, 0)) := by
    rw [hb1.block _ (by simp), Below.heap_alloc _ _ _ (by simp)]
    simpa using heap_alloc_new (w.alloc (.cells #[.slice a0 g.nodes.length c0, rv0] 25)) _
  have k5 : w1.heap[w.heap.size + 2]? = some (.cells #[.slice none 0 0, .slice none 0 0] 25 (0, 0)) := by
    rw [hb1.block _ (by simp)]
    simpa using heap_alloc_new ((w.alloc (.cells #[.slice a0 g.nodes.length c0, rv0] 25)).alloc (.cells #[.int .i64 a.kind, .int .i64 a.r, .int .i64 a.s, .int .i64 a.i, .int .i64 a.size, .int .i64 a.ptrs, .int .u64 a.v] 41)) _
  have z1 : w.heap.size + 2 < w1.heap.size := heap_lt k5
  have hB1 : Below w.heap.size w w1 := ((((Below.refl _ w).alloc (Nat.le_refl _) _).alloc (by simp) _).alloc (by simp; omega) _).trans (hb1.mono (by simp; omega))
  have HB1 := Lib.hid hB1
  have HK5 := Lib.hid k5
  have d20 : w1.cell? ⟨w.heap.size, 0, none⟩ = some (.slice a0 g.nodes.length c0) := by rw [cell_of_row _ _ _ _ _ _ k2]; rfl
  have d21 : w1.cell? ⟨w.heap.size, 1, none⟩ = some rv0 := by rw [cell_of_row _ _ _ _ _ _ k2]; rfl
  clear hb1 k2 hB1
  cases hr : right g
  · have e50 : w1.cell? ⟨w.heap.size + 2, 0, none⟩ = some (.slice none 0 0) := by rw [cell_of_row _ _ _ _ _ _ k5]; rfl
    have e51 : w1.cell? ⟨w.heap.size + 2, 1, none⟩ = some (.slice none 0 0) := by rw [cell_of_row _ _ _ _ _ _ k5]; rfl
    have ef0 : w1.frozen? ⟨w.heap.size + 2, 0, none⟩ = false := frz_of k5
    have ef1 : w1.frozen? ⟨w.heap.size + 2, 1, none⟩ = false := frz_of k5
    clear k3 k5
    go_wp2
    have hfA := cells2 w1 (w.heap.size + 2) (.slice none 0 0) (.slice none 0 0) HK5.out
    refine bodyPost_ret (v := .tuple #[.int .u64 0, .agg #[.slice none 0 0, .slice none 0 0], .int .i64 1]) (by simp [results, Try.results35, go_sem, hfA]) rfl ⟨_, rfl, (HB1.out.setCell (by simp; omega) _).setCell (by simp; omega) _, ?_⟩
    rw [show doR g a = (0, noGr, 1) by simp [doR, hr]]
    exact nilGr _ _
  · have HO1 := Lib.hid (fun (W : World) (hW : Dr w1 W) => HO.out W (fun b hb => by rw [hW.heap, HB1.out.block b hb]) (by rw [hW.heap]; omega))
    have e30 : w1.cell? ⟨w.heap.size + 1, 0, none⟩ = some (.int .i64 a.kind) := by rw [cell_of_row _ _ _ _ _ _ k3]; rfl
    have e31 : w1.cell? ⟨w.heap.size + 1, 1, none⟩ = some (.int .i64 a.r) := by rw [cell_of_row _ _ _ _ _ _ k3]; rfl
    have e32 : w1.cell? ⟨w.heap.size + 1, 2, none⟩ = some (.int .i64 a.s) := by rw [cell_of_row _ _ _ _ _ _ k3]; rfl
    have e33 : w1.cell? ⟨w.heap.size + 1, 3, none⟩ = some (.int .i64 a.i) := by rw [cell_of_row _ _ _ _ _ _ k3]; rfl
    have e34 : w1.cell? ⟨w.heap.size + 1, 4, none⟩ = some (.int .i64 a.size) := by rw [cell_of_row _ _ _ _ _ _ k3]; rfl
    have e35 : w1.cell? ⟨w.heap.size + 1, 5, none⟩ = some (.int .i64 a.ptrs) := by rw [cell_of_row _ _ _ _ _ _ k3]; rfl
    have e36 : w1.cell? ⟨w.heap.size + 1, 6, none⟩ = some (.int .u64 a.v) := by rw [cell_of_row _ _ _ _ _ _ k3]; rfl
    clear k3 k5
    go_wp2_with fail
    go_region_with (go_at_call 54; refine (HO1.out _ ?_).mono ?_; exact ⟨rfl, rfl, rfl, rfl⟩; rintro e w2 ⟨nv, rv, xs, rfl, hb2, ho2⟩; have h30 := (hb2.cell (p := ⟨w.heap.size + 1, 0, none⟩) (by show w.heap.size + 1 < w1.heap.size; omega)).trans e30; have h31 := (hb2.cell (p := ⟨w.heap.size + 1, 1, none⟩) (by show w.heap.size + 1 < w1.heap.size; omega)).trans e31; have h32 := (hb2.cell (p := ⟨w.heap.size + 1, 2, none⟩) (by show w.heap.size + 1 < w1.heap.size; omega)).trans e32; have h33 := (hb2.cell (p := ⟨w.heap.size + 1, 3, none⟩) (by show w.heap.size + 1 < w1.heap.size; omega)).trans e33; have h34 := (hb2.cell (p := ⟨w.heap.size + 1, 4, none⟩) (by show w.heap.size + 1 < w1.heap.size; omega)).trans e34; have h35 := (hb2.cell (p := ⟨w.heap.size + 1, 5, none⟩) (by show w.heap.size + 1 < w1.heap.size; omega)).trans e35; have h36 := (hb2.cell (p := ⟨w.heap.size + 1, 6, none⟩) (by show w.heap.size + 1 < w1.heap.size; omega)).trans e36; have hbl : Below w1.heap.size w1 w2 := ((Below.refl _ w1).drew).trans hb2; have HB2 := Lib.hid hbl; have HO2 := Lib.hid (show GOwn w1.heap.size w2 g nv rv xs from ho2); clear hb2 ho2 hbl)
    all_goals
      have hW := Wk.made (a := a) (B := w1.heap.size) HB2.out.size HO2.out
      have hbw : Below w.heap.size w (w2.alloc (.cells #[nv, rv, .int .i64 a.kind, .int .i64 a.r, .int .i64 a.s, .int .i64 a.i, .int .i64 a.size, .int .i64 a.ptrs, .int .u64 a.v] 86)) := (HB1.out.trans (HB2.out.mono (by omega))).alloc (by have := HB2.out.size; omega) _
      have k5 : (w2.alloc (.cells #[nv, rv, .int .i64 a.kind, .int .i64 a.r, .int .i64 a.s, .int .i64 a.i, .int .i64 a.size, .int .i64 a.ptrs, .int .u64 a.v] 86)).heap[w.heap.size + 1 + 1]? = some (.cells #[.slice none 0 0, .slice none 0 0] 25 (0, 0)) := by
        rw [Below.heap_alloc _ _ _ (by have := HB2.out.size; omega), HB2.out.block _ (by omega)]
        exact HK5.out
      have z3 : w1.heap.size ≤ (w2.alloc (.cells #[nv, rv, .int .i64 a.kind, .int .i64 a.r, .int .i64 a.s, .int .i64 a.i, .int .i64 a.size, .int .i64 a.ptrs, .int .u64 a.v] 86)).heap.size := by have := HB2.out.size; simp; omega
      clear h30 h31 h32 h33 h34 h35 h36 e30 e31 e32 e33 e34 e35 e36 d20 d21
      generalize w2.alloc (.cells #[nv, rv, .int .i64 a.kind, .int .i64 a.r, .int .i64 a.s, .int .i64 a.i, .int .i64 a.size, .int .i64 a.ptrs, .int .u64 a.v] 86) = w3 at *
      obtain ⟨rva, rvc, hrv⟩ := own_form hW.own.roots
      have c1 : w3.cell? ⟨w2.heap.size, 1, none⟩ = some (.slice rva g.roots.length rvc) := by rw [cell_of_row _ _ _ _ _ _ hW.blk, ← hrv]; rfl
      have c2 : w3.cell? ⟨w2.heap.size, 2, none⟩ = some (.int .i64 a.kind) := by rw [cell_of_row _ _ _ _ _ _ hW.blk]; rfl
      have c3 : w3.cell? ⟨w2.heap.size, 3, none⟩ = some (.int .i64 a.r) := by rw [cell_of_row _ _ _ _ _ _ hW.blk]; rfl
      have c4 : w3.cell? ⟨w2.heap.size, 4, none⟩ = some (.int .i64 a.s) := by rw [cell_of_row _ _ _ _ _ _ hW.blk]; rfl
      have HN := Lib.hid (named_walk w3 w2.heap.size a.kind a.r a.s rva g.roots.length rvc (by omega) c1 c2 c3 c4)
      have HD1 := Lib.hid (show Calls _ _ _ _ (fun e w' => e = .returned (.func (.func (deedF a.kind)) #[.pointer (some ⟨w2.heap.size, 0, none⟩)] #[]) ∧ w' = w3) from deed_walk w3 w2.heap.size a.kind c2)
      have HD2 := Lib.hid (fun hn => deed_calls hW z3 hg hr hn)
      have HBW := Lib.hid hbw
      have K5 := Lib.hid k5
      clear c1 c2 c3 c4 hrv hW hbw k5
      generalize w2.heap.size = bw at *
      have HCF := Lib.hid (deedF_callable a.kind)
      generalize deedF a.kind = F at *
      go_wp2_with fail
      refine HN.out.mono ?_
      rintro e w' ⟨rfl, hw'⟩
      subst hw'
      rw [show namesN g.roots.length a.kind a.r a.s = namesR g a from rfl]
    all_goals
      cases hn : namesR g a
      · have e50 : w'.cell? ⟨w.heap.size + 1 + 1, 0, none⟩ = some (.slice none 0 0) := by rw [cell_of_row _ _ _ _ _ _ K5.out]; rfl
        have e51 : w'.cell? ⟨w.heap.size + 1 + 1, 1, none⟩ = some (.slice none 0 0) := by rw [cell_of_row _ _ _ _ _ _ K5.out]; rfl
        have ef0 : w'.frozen? ⟨w.heap.size + 1 + 1, 0, none⟩ = false := frz_of K5.out
        have ef1 : w'.frozen? ⟨w.heap.size + 1 + 1, 1, none⟩ = false := frz_of K5.out
        go_wp2
        have hfA := cells2 _ (w.heap.size + 1 + 1) (.slice none 0 0) (.slice none 0 0) K5.out
        refine bodyPost_ret (v := .tuple #[.int .u64 0, .agg #[.slice none 0 0, .slice none 0 0], .int .i64 1]) (by simp [results, Try.results35, go_sem, hfA]) rfl ⟨_, rfl, (HBW.out.setCell (by simp; omega) _).setCell (by simp; omega) _, ?_⟩
        rw [show doR g a = (0, noGr, 1) by simp [doR, hr, hn]]
        exact nilGr _ _
      · have HD3 := Lib.hid (HD2.out hn)
        go_wp2_with fail
        refine HD1.out.mono ?_
        rintro e w'' ⟨rfl, hw''⟩
        subst hw''
        have hcf := run_callFunc HCF.out
        go_wp2_with fail
        clear hcf
        refine HD3.out.mono ?_
        rintro e w4 ⟨rfl, hb4, hh4⟩
        have k5 : w4.heap[w.heap.size + 1 + 1]? = some (.cells #[.slice none 0 0, .slice none 0 0] 25 (0, 0)) := (hb4.block _ (by omega)).trans K5.out
        have HB4 := Lib.hid (HBW.out.trans (hb4.mono (by omega)))
        have hdo : doR g a = ((doR g a).1, (doR g a).2.1, (doR g a).2.2) := rfl
        have hE := doR_err (g := g) (a := a)
        clear hb4 HD2 HD3
        generalize (doR g a).1 = v at *
        generalize (doR g a).2.2 = c at *
        generalize (doR g a).2.1 = g' at *
        have e50 : w4.cell? ⟨w.heap.size + 1 + 1, 0, none⟩ = some (.slice none 0 0) := by rw [cell_of_row _ _ _ _ _ _ k5]; rfl
        have e51 : w4.cell? ⟨w.heap.size + 1 + 1, 1, none⟩ = some (.slice none 0 0) := by rw [cell_of_row _ _ _ _ _ _ k5]; rfl
        have ef0 : w4.frozen? ⟨w.heap.size + 1 + 1, 0, none⟩ = false := frz_of k5
        have ef1 : w4.frozen? ⟨w.heap.size + 1 + 1, 1, none⟩ = false := frz_of k5
        have K6 := Lib.hid k5
        have HDO := Lib.hid hdo
        have HE := Lib.hid hE
        have HH4 := Lib.hid hh4
        clear k5 hdo hE hh4
        by_cases hc : c = 0
        · obtain ⟨nv', rv', xs', h0, h1, hh⟩ := HH4.out hc
          obtain ⟨nva, nvc, hnv'⟩ := own_form hh.nodes
          obtain ⟨rva', rvc', hrv'⟩ := own_form hh.roots
          subst hnv'
          subst hrv'
          have HHH := Lib.hid hh
          clear hh
          subst hc
          have hd : Dr w4 w4.drew := (Dr.refl w4).drew
          have HD := Lib.hid hd
          clear hd
          go_wp2_with fail
          go_region
          all_goals
            go_wp2
            try simp only [Exit.inBlock, Exit.then]
            have hfA := cells2 w4 (w.heap.size + 1 + 1) (.slice nva g'.nodes.length nvc) (.slice rva' g'.roots.length rvc') K6.out
            refine bodyPost_ret (v := .tuple #[.int .u64 v, .agg #[.slice nva g'.nodes.length nvc, .slice rva' g'.roots.length rvc'], .int .i64 0]) (by simp [results, Try.results35, go_sem, hfA]) rfl ⟨_, rfl, ((HB4.out.setCell (by simp; omega) _).setCell (by simp; omega) _).drew, ?_⟩
            rw [HDO.out]
            exact (doneGr (C := w.heap.size) HHH.out (by omega) (by omega)).keep (fun _ _ => rfl) fun _ h => h
        · obtain ⟨c', hc', hdo'⟩ := HE.out hc
          have hcc := hdo'.symm.trans HDO.out
          cases hcc
          go_wp2
          have hfA := cells2 w4 (w.heap.size + 1 + 1) (.slice none 0 0) (.slice none 0 0) K6.out
          refine bodyPost_ret (v := .tuple #[.int .u64 0, .agg #[.slice none 0 0, .slice none 0 0], .int .i64 c]) (by simp [results, Try.results35, go_sem, hfA]) rfl ⟨_, rfl, (HB4.out.setCell (by simp; omega) _).setCell (by simp; omega) _, ?_⟩
          rw [hdo']
          exact nilGr _ _
end Vm
