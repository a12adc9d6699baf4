/-
  objects.each's function, as a function that is ranged over.
-/
import Derived.Test.YtfplljcicihneaaN1
import Derived.RecoverIn
import Derived.RangeFuncBox
import Derived.Maps.AppendAt
import Derived.Maps.OwnIn
import Derived.Laws.StructEq
namespace Vm
open Go Go.Proofs Go.RowKit Go.Shelf
set_option maxHeartbeats 1000000
set_option maxRecDepth 100000
set_option linter.unusedSimpArgs false
set_option linter.unusedVariables false
/-- what the caller's invariant tells: the row lies in the heap -/
def RowIn (bl : Nat) (W : World) : Prop := ∀ k, rowB W bl = some k → k < W.heap.size
theorem grown_trans {A B C : World} {r : Option Nat} (h : A.grownBy B r) (k : B.grownBy C r) : A.grownBy C r :=
  ⟨k.os.trans h.os, k.tape.trans h.tape, k.output.trans h.output, Nat.le_trans h.size k.size, fun i hi hn => (k.block i (Nat.lt_of_lt_of_le hi h.size) hn).trans (h.block i hi hn)⟩
theorem walkR_step (ws : List Int) (shs : List (Int × Int)) (old : Bool) {a t t' : Nat} {x : Int} {ob : Ob} (hx : ws[a]? = some x) (ho : objR shs old a t x = some (ob, t')) {f : Nat} {pre : List Ob} :
    walkR ws shs old (f + 1) a t pre = if (ws.length : Int) < a + 1 + ob.size then ([], 2) else if slotsOk ((ws.drop (a + 1)).take ob.size.toNat) ob.gone ob.ptrs 0 = false then ([], 3) else walkR ws shs old f (a + 1 + ob.size.toNat) t' (pre ++ [ob]) := by
  rw [walkR, hx]
  simp only
  rw [ho]
theorem each1_seq (n : Nat) {w : World} {ws : List Int} {g o cap bw bg base bl : Nat} {bt : Option Nat} {sv gv : Value} {shs : List (Int × Int)} {old : Bool} {K : Nat → World → Prop} (hst : Stat6 ws g o cap sv bw bg base bl bt gv w)
    (hbl : bl < base) (hltb : some bl ≠ bt) (hbeg : BegOk ws g o cap gv shs old bt K) (hK0 : K 0 w) (hKB : ∀ t W W', K t W → Below W.heap.size W W' → K t W') (hKK : ∀ t W W', K t W → KpW bl base W W' → K t W') :
    SeqP Fence.wide n Try.prog 129 #[.pointer (some ⟨bw, 0, none⟩), .pointer (some ⟨bg, 0, none⟩)] (fun ob : Ob => #[obA ob]) (KpW bl base) (endS ws shs old K) (endP ws shs old) ws.length bt (RowIn bl) w := by
  intro l J W hW hJx hJ hY h0
  refine callsIn_of_wp Try.func129 rfl trivial ?_ rfl
  simp only [Try.ntmps129, List.size_toArray, List.length_cons, List.length_nil, Nat.reduceAdd, Nat.reduceSub, Array.replicate_succ, Array.replicate_zero, List.push_toArray, List.append_toArray, List.nil_append, List.cons_append]
  have HS0 := Lib.hid (hst.grown (grown_of hW bt))
  have HK0 := Lib.hid (hKB 0 w W hK0 hW)
  have HJ0 := Lib.hid h0
  clear h0
  gi_wp2
  gi_loopw [4] (fun p wr => ∃ (a t f : Nat) (pre : List Ob), p = .int .i64 a ∧ Hid (J pre wr ∧ K t wr ∧ Stat6 ws g o cap sv bw bg base bl bt gv wr ∧ ws.length < f + a ∧ 0 < f ∧ a ≤ ws.length ∧ pre.length ≤ a ∧ walkW ws shs old = walkR ws shs old f a t pre))
    (fun p _ => ws.length - (intOf p).toNat)
  case atStart => exact ⟨0, 0, ws.length + 1, [], rfl, Lib.hid ⟨HJ0.out, HK0.out, HS0.out, by omega, by omega, by omega, by simp, rfl⟩⟩
  case round =>
    obtain ⟨a, t, f, pre, rfl, HI⟩ := hrel
    have hst' := HI.out.2.2.1
    have hsv := hst'.sv_
    have c1 : wr.cell? ⟨bw, 0, none⟩ = some sv := by rw [cell_of_row _ _ _ _ _ _ hst'.hbw]; rfl
    have c2 : wr.cell? ⟨bg, 0, none⟩ = some gv := by rw [cell_of_row _ _ _ _ _ _ hst'.hbg]; rfl
    have hlen := hst'.words.len
    clear hst'
    by_cases hlt : a < ws.length
    · obtain ⟨x, hx⟩ : ∃ x, ws[a]? = some x := ⟨_, List.getElem?_eq_getElem hlt⟩
      obtain rfl : sv = .slice (some ⟨g, o, none⟩) ws.length cap := hsv.resolve_right (fun h => by rw [h.1] at hlt; simp at hlt)
      clear hsv
      have hlt' : ((a : Int) < ws.length) = True := eq_true (by omega)
      have hb := hbeg wr a t x HI.out.2.2.1.words (by have := HI.out.2.2.1.lt; omega) HI.out.2.1 hx
      cases ho : objR shs old a t x with
      | none =>
        rw [ho] at hb
        have HX := Lib.hid hb
        clear hb
        gi_wp2
        refine ⟨trivial, fun h => (by cases h), (callsIn_wide.2 HX.out).mono ?_⟩
        rintro e w1 ⟨hg1, rfl⟩
        have HG1 := Lib.hid hg1
        clear hg1
        gi_wp2
        refine ⟨rfl, .inr ⟨_, pre, rfl, ⟨3, .inr rfl, rfl, ?_⟩, hJ _ _ _ _ HI.out.1 HG1.out (fun r e => e.symm)⟩⟩
        obtain ⟨_, _, _, hf, hf0, _, _, hR⟩ := HI.out
        cases f with
        | zero => omega
        | succ f =>
          rw [hR, walkR, hx]
          simp only
          rw [ho]
      | some q =>
        obtain ⟨ob, t'⟩ := q
        rw [ho] at hb
        have HX := Lib.hid hb
        clear hb
        obtain ⟨hsh, hat⟩ := objR_shape ho
        gi_wp2
        refine ⟨trivial, fun h => (by cases h), (callsIn_wide.2 HX.out).mono ?_⟩
        rintro e w1 ⟨hg1, rfl, hk1⟩
        have HG1 := Lib.hid hg1
        have HK1 := Lib.hid hk1
        have hS1 := HI.out.2.2.1.grown hg1
        have HS1 := Lib.hid hS1
        have e1 : ∀ O, (w1.alloc O).cell? ⟨bw, 0, none⟩ = some (.slice (some ⟨g, o, none⟩) ws.length cap) := fun O => by
          rw [World.cell?_alloc_lt _ _ _ (heap_lt hS1.hbw), cell_of_row _ _ _ _ _ _ hS1.hbw]; rfl
        have hgO : wr.grownBy (w1.alloc (.cells #[.int .i64 a, .int .i64 ob.size, .int .i64 ob.ptrs, .bool ob.gone, .int .u64 ob.target] 57)) bt := grown_trans hg1 (World.grownBy_alloc _ _ _)
        have hSO := Lib.hid (HI.out.2.2.1.grown hgO)
        have hh := hold_walk (w1.alloc (.cells #[.int .i64 a, .int .i64 ob.size, .int .i64 ob.ptrs, .bool ob.gone, .int .u64 ob.target] 57)) ws g o cap hSO.out.words (by have := hSO.out.lt; omega) ob a hat hlt hsh
        unfold obA at hh
        rw [hat] at hh
        have HGO := Lib.hid hgO
        have HHold := Lib.hid hh
        have hstep : ∀ f pre, walkR ws shs old (f + 1) a t pre = _ := fun f pre => walkR_step ws shs old hx ho (f := f) (pre := pre)
        have HST := Lib.hid hstep
        clear hg1 hk1 hS1 hgO hh hstep hx
        unfold obA
        gi_wp2
        refine ⟨trivial, fun h => (by cases h), (callsIn_wide.2 HHold.out).mono ?_⟩
        rintro e w2 ⟨rfl, hb2⟩
        have hG2 : wr.grownBy w2 bt := grown_trans HGO.out (grown_of hb2 bt)
        have HG2 := Lib.hid hG2
        have HB2 := Lib.hid hb2
        unfold holdE
        by_cases h1 : (ws.length : Int) < ob.at_ + 1 + ob.size
        · rw [if_pos h1]
          rw [hat] at h1
          clear hb2 hG2
          gi_wp2
          refine ⟨rfl, .inr ⟨_, pre, rfl, ⟨2, .inl rfl, rfl, ?_⟩, hJ _ _ _ _ HI.out.1 HG2.out (fun r e => e.symm)⟩⟩
          obtain ⟨_, _, _, hf, hf0, _, _, hR⟩ := HI.out
          obtain ⟨f, rfl⟩ : ∃ f', f = f' + 1 := ⟨f - 1, by omega⟩
          rw [hR, HST.out, if_pos h1]
        · rw [if_neg h1]
          by_cases h2 : slotsOk ((ws.drop (ob.at_.toNat + 1)).take ob.size.toNat) ob.gone ob.ptrs 0 = false
          · rw [if_pos h2]
            rw [hat] at h1 h2
            clear hb2 hG2
            gi_wp2
            refine ⟨rfl, .inr ⟨_, pre, rfl, ⟨3, .inr rfl, rfl, ?_⟩, hJ _ _ _ _ HI.out.1 HG2.out (fun r e => e.symm)⟩⟩
            obtain ⟨_, _, _, hf, hf0, _, _, hR⟩ := HI.out
            obtain ⟨f, rfl⟩ : ∃ f', f = f' + 1 := ⟨f - 1, by omega⟩
            rw [hR, HST.out, if_neg (by omega)]
            simp only [Int.toNat_natCast] at h2
            rw [if_pos h2]
          · rw [if_neg h2]
            rw [hat] at h1 h2
            simp only [Int.toNat_natCast] at h2
            have HH2 := Lib.hid (And.intro h1 h2)
            have hJ2 := hJ _ _ _ _ HI.out.1 hG2 (fun r e => e.symm)
            have HJ2 := Lib.hid hJ2
            have HS2 := Lib.hid (HI.out.2.2.1.grown hG2)
            have hbx : w2.heap[w1.heap.size]? = some (.cells #[.int .i64 a, .int .i64 ob.size, .int .i64 ob.ptrs, .bool ob.gone, .int .u64 ob.target] 57 (0, 0)) := (hb2.block _ (by simp)).trans (heap_alloc_new w1 _)
            have HBX := Lib.hid hbx
            obtain ⟨fn, tmps, assign, body, hy, hR⟩ := hY pre ob w2 hJ2 (by have := HI.out.2.2.2.2.2.2.1; omega)
            unfold obA at hy
            rw [hat] at hy
            have d0 : w2.cell? ⟨w1.heap.size, 0, none⟩ = some (.int .i64 a) := by rw [cell_of_row _ _ _ _ _ _ hbx]; rfl
            have d1 : w2.cell? ⟨w1.heap.size, 1, none⟩ = some (.int .i64 ob.size) := by rw [cell_of_row _ _ _ _ _ _ hbx]; rfl
            have d2 : w2.cell? ⟨w1.heap.size, 2, none⟩ = some (.int .i64 ob.ptrs) := by rw [cell_of_row _ _ _ _ _ _ hbx]; rfl
            have d3 : w2.cell? ⟨w1.heap.size, 3, none⟩ = some (.bool ob.gone) := by rw [cell_of_row _ _ _ _ _ _ hbx]; rfl
            have d4 : w2.cell? ⟨w1.heap.size, 4, none⟩ = some (.int .u64 ob.target) := by rw [cell_of_row _ _ _ _ _ _ hbx]; rfl
            clear hb2 hG2 hJ2 hbx
            gi_wp2
            refine ⟨fun h => (by cases h), hR.mono ?_⟩
            rintro e W3 ⟨rfl, hJ3, hk3⟩
            have HJ3 := Lib.hid hJ3
            have HK3 := Lib.hid hk3
            have hrow2 : rowB w2 bl ≠ some w1.heap.size := by
              intro e
              have hlb : bl < wr.heap.size := by have := HI.out.2.2.1.lt.2.2.2; omega
              have : rowB w2 bl = rowB wr bl := by
                unfold rowB
                rw [World.cell?_of_block (a := ⟨bl, 0, none⟩) (HG2.out.block bl hlb hltb)]
              rw [this] at e
              have := hJx _ _ HI.out.1 _ e
              have := HG1.out.size
              omega
            have hbx3 := hk3.same _ _ HBX.out rfl (by have := HI.out.2.2.1.lt.2.2.2; have := HG1.out.size; omega) (.inr hrow2)
            have f1 : W3.cell? ⟨w1.heap.size, 1, none⟩ = some (.int .i64 ob.size) := by rw [cell_of_row _ _ _ _ _ _ hbx3]; rfl
            have hS3 := HS2.out.kp hk3
            have hK2 : K t' w2 := hKB _ _ _ HK1.out (((Below.refl _ _).alloc (Nat.le_refl _) _).trans (HB2.out.mono (by simp)))
            have hK3 := hKK _ _ _ hK2 hk3
            have HS3 := Lib.hid (And.intro hS3 hK3)
            obtain ⟨m, hm⟩ : ∃ m : Nat, ob.size = m := ⟨ob.size.toNat, by have := (shapeOk_iff.1 hsh).1; omega⟩
            rw [hm] at f1
            have hm5 : (m : Int) ≤ 255 := by have := (shapeOk_iff.1 hsh); omega
            have q1 : IntKind.i64.wrap (1 + (m : Int)) = ((1 + m : Nat) : Int) := by rw [wrap_i _ (by omega) (by omega)]; omega
            have q2 : IntKind.i64.wrap ((a : Int) + ((1 + m : Nat) : Int)) = ((a + (1 + m) : Nat) : Int) := by rw [wrap_i _ (by omega) (by omega)]; omega
            clear hJ3 hk3 hbx3 hS3 hK2 hK3 hrow2
            clear h2
            gi_wp2
            obtain ⟨_, _, _, hf, hf0, hal, hpl, hR⟩ := HI.out
            obtain ⟨f, rfl⟩ : ∃ f', f = f' + 1 := ⟨f - 1, by omega⟩
            rw [HST.out, if_neg (by have := HH2.out.1; omega), if_neg HH2.out.2] at hR
            have hle : a + 1 + m ≤ ws.length := by omega
            refine ⟨⟨a + (1 + m), t', f, pre ++ [ob], by simp, Lib.hid ⟨HJ3.out, HS3.out.2, HS3.out.1, by omega, by omega, by omega, by simp; omega, ?_⟩⟩, by simp [intOf]; omega⟩
            rw [hR, hm, Int.toNat_natCast, Nat.add_assoc a 1 m]
    · have hnlt : ((a : Int) < ws.length) = False := eq_false (by omega)
      have HE : Hid (endS ws shs old K pre wr) := Lib.hid (by
        obtain ⟨_, hK, _, hf, hf0, _, _, hR⟩ := HI.out
        refine ⟨t, hK, ?_⟩
        cases f with
        | zero => omega
        | succ f =>
          rw [hR, walkR, List.getElem?_eq_none (by omega)])
      obtain ⟨sa, sc, rfl⟩ : ∃ sa sc, sv = .slice sa ws.length sc := by
        rcases hsv with rfl | ⟨h0, sa, sc, rfl⟩
        · exact ⟨_, _, rfl⟩
        · exact ⟨sa, sc, by rw [h0]; rfl⟩
      clear hsv
      gi_wp2
      go_end0
      exact .inl ⟨_, pre, rfl, HE.out, HI.out.1⟩
end Vm
/-
  objects.each; objects.walk's deferred function.
-/
namespace Vm
open Go Go.Proofs Go.RowKit Go.Shelf
set_option maxHeartbeats 1000000
set_option maxRecDepth 100000
set_option linter.unusedSimpArgs false
set_option linter.unusedVariables false
theorem each_walk (w : World) (sv gv : Value) (hs : ∃ a n c, sv = .slice a n c) (hg : gv = .nilFunc ∨ ∃ f vs, gv = .func (.func f) #[] vs) :
    Calls Try.prog 128 #[sv, gv] w fun e w' => e = .returned (.func (.func 129) #[] #[.pointer (some ⟨w.heap.size, 0, none⟩), .pointer (some ⟨w.heap.size + 1, 0, none⟩)]) ∧
      w' = (w.alloc (.cells #[sv] 28)).alloc (.cells #[gv] 177) := by
  have hmf : ∀ (fn : Go.Fn) (first cap : Array Value) (w : World), (Instr.makeFunc fn first cap).run Try.prog w = .ok (.func fn first cap) w := fun _ _ _ _ => rfl
  obtain ⟨a, n, c, rfl⟩ := hs
  rcases hg with rfl | ⟨f, vs, rfl⟩
  · go_enter Try.func128, Try.ntmps128
    go_wp2
    exact bodyPost_ret (results_tmp rfl _ _ _) rfl ⟨rfl, rfl⟩
  · go_enter Try.func128, Try.ntmps128
    go_wp2
    exact bodyPost_ret (results_tmp rfl _ _ _) rfl ⟨rfl, rfl⟩
theorem neq_ii (w : World) : Sem.run Try.prog (binOp .neq 20 .nilIface .nilIface) w = .ok (.bool false) w := by rfl
theorem neq_iv (w : World) (T : TypeId) (v : Value) : Sem.run Try.prog (binOp .neq 20 (.iface T v) .nilIface) w = .ok (.bool true) w := by rfl
theorem ta_ok (w : World) (x : Int) : Sem.run Try.prog (Instr.typeAssert (.iface 176 (.agg #[.int .i64 x])) 20 176 true) w = .ok (.tuple #[.agg #[.int .i64 x], .bool true]) w := by rfl
theorem catch_idle (n : Nat) (p q : Addr) (w : World) :
    CallsDIn Fence.wide n Try.prog 127 #[.pointer (some p), .pointer (some q)] .returning w fun e u' w' => e = .returned (.tuple #[]) ∧ u' = .returning ∧ w' = w := by
  have h1 := neq_ii
  refine callsDIn_of_wpSIn Try.func127 rfl trivial fun c₀ cs hu => ?_
  simp only [Try.ntmps127, List.size_toArray, List.length_cons, List.length_nil, Nat.reduceAdd, Nat.reduceSub, Array.replicate_succ, Array.replicate_zero, List.push_toArray, List.append_toArray, List.nil_append, List.cons_append]
  apply wpSIn_seq
  apply wpSIn_region
  simp [wpOpsSIn, go_sem, recoverD, hu, Exit.thenS]
  refine wpSIn_of_wpIn rfl ?_
  gi_wp2
  cases c₀
  simp_all [bodyPostS, results, Try.results127]
theorem catch_panicking (n : Nat) (bp bq : Nat) (x : Int) (w : World) (vp vq : Value) (hp : Boxed w bp 49 vp) (hq : Boxed w bq 37 vq) (hne : bp ≠ bq) :
    CallsDIn Fence.wide n Try.prog 127 #[.pointer (some ⟨bp, 0, none⟩), .pointer (some ⟨bq, 0, none⟩)] (.panicking (wrongA x)) w fun e u' w' =>
      e = .returned (.tuple #[]) ∧ u' = .panicking [{ v := .iface 176 (.agg #[.int .i64 x]), recovered := true }] ∧
      Boxed w' bp 49 (.slice none 0 0) ∧ Boxed w' bq 37 (.int .i64 x) ∧ (w.heap.size ≤ w'.heap.size ∧ ∀ k, k < w.heap.size → k ≠ bp → k ≠ bq → w'.heap[k]? = w.heap[k]?) ∧ w'.os = w.os ∧ w'.tape = w.tape ∧ w'.output = w.output := by
  have h1 := neq_iv
  have h2 := ta_ok
  have p1 := (hp.alloc (.cells #[.int .i64 x] 176)).cell
  have p2 := (hp.alloc (.cells #[.int .i64 x] 176)).frozen
  have q1 := (hq.alloc (.cells #[.int .i64 x] 176)).cell
  have q2 := (hq.alloc (.cells #[.int .i64 x] 176)).frozen
  have p3 := hp.cell
  have p4 := hp.frozen
  have q3 := hq.cell
  have q4 := hq.frozen
  have l1 := hp.lt
  have l2 := hq.lt
  have n1 : ¬ bp = bq := hne
  have n2 : ¬ bq = bp := fun e => hne e.symm
  have n3 : ¬ bp = w.heap.size := by omega
  have n4 : ¬ w.heap.size = bp := by omega
  have n5 : ¬ bq = w.heap.size := by omega
  have n6 : ¬ w.heap.size = bq := by omega
  have HP := Lib.hid (And.intro hp hq)
  clear hp hq hne
  refine callsDIn_of_wpSIn Try.func127 rfl trivial fun c₀ cs hu => ?_
  simp only [Try.ntmps127, List.size_toArray, List.length_cons, List.length_nil, Nat.reduceAdd, Nat.reduceSub, Array.replicate_succ, Array.replicate_zero, List.push_toArray, List.append_toArray, List.nil_append, List.cons_append]
  apply wpSIn_seq
  apply wpSIn_region
  simp [wpOpsSIn, go_sem, recoverD, hu, wrongA, Exit.thenS]
  refine wpSIn_of_wpIn rfl ?_
  gi_wp2
  gi_region
  all_goals gi_wp2
  obtain ⟨hp, hq⟩ := HP.out
  have b1 : Boxed ((w.setCell ⟨bp, 0, none⟩ (.slice none 0 0)).setCell ⟨bq, 0, none⟩ (.int .i64 x)) bp 49 (.slice none 0 0) := (Below.heap_setCell _ ⟨bq, 0, none⟩ _ bp n1).trans (hp.set _)
  have b2 : Boxed ((w.setCell ⟨bp, 0, none⟩ (.slice none 0 0)).setCell ⟨bq, 0, none⟩ (.int .i64 x)) bq 37 (.int .i64 x) := Boxed.set _ (show Boxed (w.setCell ⟨bp, 0, none⟩ (.slice none 0 0)) bq 37 vq from (Below.heap_setCell _ ⟨bp, 0, none⟩ _ bq n2).trans hq)
  refine ⟨rfl, _, rfl, _, by simp [results, Try.results127], rfl, rfl, b1.alloc _, b2.alloc _, ⟨?_, fun k hk k1 k2 => ?_⟩, rfl, rfl, rfl⟩
  · show _ ≤ (World.alloc _ _).heap.size
    rw [World.size_alloc]
    simp [World.setCell]
  · show (World.alloc _ _).heap[k]? = _
    rw [Below.heap_alloc _ _ _ (by simp [World.setCell]; exact hk), Below.heap_setCell _ _ _ _ k2, Below.heap_setCell _ _ _ _ k1]
end Vm
/-
  objects.walk: what its loop keeps.
-/
namespace Vm
open Go Go.Proofs Go.RowKit Go.Shelf
set_option maxHeartbeats 1000000
set_option maxRecDepth 100000
set_option linter.unusedSimpArgs false
set_option linter.unusedVariables false
def obC (ob : Ob) : List Value := [.int .i64 ob.at_, .int .i64 ob.size, .int .i64 ob.ptrs, .bool ob.gone, .int .u64 ob.target]
def obsC (l : List Ob) : List Value := l.flatMap obC
theorem obsC_snoc (l : List Ob) (x : Ob) : obsC (l ++ [x]) = obsC l ++ obC x := by simp [obsC]
/-- between two rounds of walk's loop -/
structure WIv (w : World) (bt : Option Nat) (pre : List Ob) (W : World) : Prop where
  row : ∃ v, Boxed W w.heap.size 49 v ∧ W.ownsRow (w.heap.size + 4) 57 5 v pre.length (obsC pre)
  e : Boxed W (w.heap.size + 1) 37 (.int .i64 0)
  gr : w.grownBy W bt
  size : w.heap.size + 4 ≤ W.heap.size
theorem grown_row {w X Y : World} {bt row : Option Nat} (h : w.grownBy X bt) (k : X.grownBy Y row) (hr : ∀ r, row = some r → some r = bt ∨ w.heap.size ≤ r) : w.grownBy Y bt :=
  ⟨k.os.trans h.os, k.tape.trans h.tape, k.output.trans h.output, Nat.le_trans h.size k.size, fun i hi hn =>
    (k.block i (Nat.lt_of_lt_of_le hi h.size) (fun e => by rcases hr i e.symm with e2 | e2; exact hn e2; omega)).trans (h.block i hi hn)⟩
theorem rowB_eq {W : World} {b : Nat} {t : TypeId} {v : Value} (h : Boxed W b t v) : rowB W b = v.ownBlock := by
  unfold rowB
  rw [h.cell]
  rfl
theorem WIv.rowIn {w : World} {bt : Option Nat} {pre : List Ob} {W : World} (h : WIv w bt pre W) : RowIn w.heap.size W := by
  obtain ⟨v, hv, hr⟩ := h.row
  intro k hk
  rw [rowB_eq hv] at hk
  exact (hr.lt k hk).2
theorem WIv.own {w : World} {bt : Option Nat} (hbt : ∀ r, bt = some r → r < w.heap.size) : OwnP bt (w.heap.size + 4) (WIv w bt) := by
  intro s X Y row h hg hr
  have hne : ∀ k, w.heap.size ≤ k → k < w.heap.size + 4 → some k ≠ row := by
    intro k h1 h2 e
    rcases hr k e.symm with e2 | ⟨e2, _⟩
    · have := hbt k e2.symm; omega
    · omega
  obtain ⟨v, hv, hrow⟩ := h.row
  refine ⟨⟨v, hv.kept hg (hne _ (Nat.le_refl _) (by omega)), hrow.kept hg ?_⟩, h.e.kept hg (hne _ (by omega) (by omega)), grown_row h.gr hg fun r e => (hr r e).imp id fun h2 => by omega, Nat.le_trans h.size hg.size⟩
  cases hb : v.ownBlock with
  | none => exact .inl rfl
  | some b =>
    refine .inr fun e => ?_
    have h1 := hrow.lt b hb
    rcases hr b e.symm with e2 | ⟨_, o, ho, hc⟩
    · have := hbt b e2.symm; omega
    · rcases hrow.2 with ⟨rfl, _⟩ | ⟨g, cap, cur, rfl, _, hgb, _⟩
      · simp [Value.ownBlock] at hb
      · obtain rfl : g = b := by simpa [Value.ownBlock] using hb
        rw [hgb] at ho; cases ho; cases hc
theorem WIv.appended {w W w1 : World} {bt : Option Nat} {pre : List Ob} {x : Ob} {v v' : Value} {tmp : Obj} (hbt : ∀ r, bt = some r → r < w.heap.size) (h : WIv w bt pre W) (hv : Boxed W w.heap.size 49 v)
    (hrow : W.ownsRow (w.heap.size + 4) 57 5 v pre.length (obsC pre)) (hown' : w1.ownsRow (w.heap.size + 4) 57 5 v' (pre.length + 1) (obsC pre ++ obC x))
    (hgrow : (W.alloc tmp).grownBy w1 v.ownBlock) (hat : v'.ownBlock = v.ownBlock ∨ v'.ownBlock = some (W.alloc tmp).heap.size) :
    Boxed w1 w.heap.size 49 v ∧ KeepsFrom (w.heap.size + 4) W (w1.setCell ⟨w.heap.size, 0, none⟩ v') ∧ KpW w.heap.size (w.heap.size + 4) W (w1.setCell ⟨w.heap.size, 0, none⟩ v') ∧ WIv w bt (pre ++ [x]) (w1.setCell ⟨w.heap.size, 0, none⟩ v') := by
  have hsz := h.size
  obtain ⟨hv1, hv2, hr2, hk2, hb2⟩ := hv.appended (by decide) (own_lower hrow (B' := w.heap.size) (by omega)) (by omega) (Nat.le_refl _) (own_lower hown' (B' := w.heap.size) (by omega)) hgrow
  have hlow : ∀ b, v.ownBlock = some b → w.heap.size + 4 ≤ b := fun b hb => (hrow.lt b hb).1
  have hrow2 : (w1.setCell ⟨w.heap.size, 0, none⟩ v').ownsRow (w.heap.size + 4) 57 5 v' (pre.length + 1) (obsC pre ++ obC x) := hown'.kept (grownBy_setCell' w1 w.heap.size v') (by
    cases hb : v'.ownBlock with
    | none => exact .inl rfl
    | some b => exact .inr fun e => by have h1 := (hown'.lt b hb).1; cases e; omega)
  refine ⟨hv1, hk2.from _, ⟨hk2.size, fun k o hk hc hn hr => ?_, fun k hk e => ?_⟩, ⟨v', hv2, ?_⟩, ?_, ?_, Nat.le_trans hsz hk2.size⟩
  · rw [Below.heap_setCell _ _ _ _ hn, hgrow.block k (by have := heap_lt hk; simp; omega) (fun e => ?_), Below.heap_alloc _ _ _ (heap_lt hk), hk]
    rcases hr with hr | hr
    · have := hlow k e.symm; omega
    · exact hr ((rowB_eq hv).trans e.symm)
  · rw [rowB_eq hv2] at e
    rw [rowB_eq hv]
    rcases hat with hat | hat
    · rw [← hat]; exact e
    · rw [hat] at e
      simp at e
      omega
  · rw [List.length_append, obsC_snoc]; exact hrow2
  · have he1 : Boxed w1 (w.heap.size + 1) 37 (.int .i64 0) := (h.e.alloc tmp).kept hgrow (fun e => by have := hlow _ e.symm; omega)
    exact (Below.heap_setCell _ _ _ _ (by show w.heap.size + 1 ≠ w.heap.size; omega)).trans he1
  · refine grown_row (grown_row (grown_row h.gr (World.grownBy_alloc W tmp none) (by simp)) hgrow fun r e => .inr ?_) (grownBy_setCell' w1 w.heap.size v') fun r e => .inr ?_
    · have := hlow r e; omega
    · cases e; exact Nat.le_refl _
theorem KpW.alloc {bl base : Nat} {W : World} (o : Obj) (hbl : bl < W.heap.size) : KpW bl base W (W.alloc o) := by
  refine ⟨by simp, fun k o2 hk _ _ _ => (Below.heap_alloc _ _ _ (heap_lt hk)).trans hk, fun k _ hr => ?_⟩
  unfold rowB at hr ⊢
  rw [World.cell?_alloc_lt _ _ _ hbl] at hr
  exact hr
end Vm
/-
  objects.walk.
-/
namespace Vm
open Go Go.Proofs Go.RowKit Go.Shelf
attribute [local go_sem] Oper.semAt_some
set_option maxHeartbeats 1000000
set_option maxRecDepth 100000
set_option linter.unusedSimpArgs false
set_option linter.unusedVariables false
theorem infoO : (Try.prog.info? 57).map (fun i => (i.zero, i.size, i.bytes)) = some (some (.agg #[.int .i64 0, .int .i64 0, .int .i64 0, .bool false, .int .u64 0]), 5, 40) := by kernel_rfl
theorem unO : Try.prog.underlying 49 = some (.slice 57) := by kernel_rfl
theorem cells5_new (w : World) (a b c d e : Value) (t : TypeId) : ∀ j u, [a, b, c, d, e][j]? = some u → (w.alloc (.cells #[a, b, c, d, e] t)).cell? ((⟨w.heap.size, 0, none⟩ : Addr).add j) = some u := by
  intro j u h
  have := cell_of_row _ _ j _ _ _ (heap_alloc_new w (.cells #[a, b, c, d, e] t))
  have e2 : (⟨w.heap.size, 0, none⟩ : Addr).add j = ⟨w.heap.size, j, none⟩ := by unfold Addr.add; split <;> simp_all
  rw [e2, this]
  simpa using h
/-- what walk answers -/
def WalkEnd (w : World) (ws : List Int) (shs : List (Int × Int)) (old : Bool) (bt : Option Nat) (K : Nat → World → Prop) (e : Ending) (W : World) : Prop :=
  ∃ v n xs, e = .returned (.tuple #[v, .int .i64 n]) ∧ w.grownBy W bt ∧ W.ownsRow (w.heap.size + 4) 57 5 v xs.length (obsC xs) ∧ ((n = 0 ∧ endS ws shs old K xs W) ∨ ((n = 2 ∨ n = 3) ∧ xs = [] ∧ walkW ws shs old = ([], n)))
theorem walk_walk {w : World} {ws : List Int} {g o cap : Nat} {bt : Option Nat} {sv gv : Value} {shs : List (Int × Int)} {old : Bool} {K : Nat → World → Prop} (hw : Words w ws g o cap)
    (hsv : sv = .slice (some ⟨g, o, none⟩) ws.length cap ∨ (ws = [] ∧ ∃ a c, sv = .slice a 0 c)) (hg : (ws ≠ [] → g < w.heap.size) ∧ g < w.heap.size + 4 ∧ g ≠ w.heap.size) (hgv : gv = .nilFunc ∨ ∃ f vs, gv = .func (.func f) #[] vs)
    (hbt : ∀ r, bt = some r → r < w.heap.size) (hgt : some g ≠ bt) (hbeg : BegOk ws g o cap gv shs old bt K) (hK0 : K 0 w)
    (hKG : ∀ t A B row, K t A → A.grownBy B row → (∀ r, row = some r → w.heap.size ≤ r) → K t B)
    (hKK : ∀ bl base t A B, w.heap.size ≤ bl → w.heap.size ≤ base → K t A → KpW bl base A B → K t B) :
    Calls Try.prog 124 #[sv, gv] w (WalkEnd w ws shs old bt K) := by
  refine (callsIn_wide (n := 5)).1 ?_
  have hmf : ∀ (fn : Go.Fn) (first cap : Array Value) (w : World), (Instr.makeFunc fn first cap).run Try.prog w = .ok (.func fn first cap) w := fun _ _ _ _ => rfl
  have hsf : ∃ a n c, sv = .slice a n c := by
    rcases hsv with rfl | ⟨_, a, c, rfl⟩
    · exact ⟨_, _, _, rfl⟩
    · exact ⟨_, _, _, rfl⟩
  refine callsIn_of_wp_marks Try.func124 rfl trivial ?_ rfl
  simp only [Try.ntmps124, List.size_toArray, List.length_cons, List.length_nil, Nat.reduceAdd, Nat.reduceSub, Array.replicate_succ, Array.replicate_zero, List.push_toArray, List.append_toArray, List.nil_append, List.cons_append]
  have he := fun W => each_walk W sv gv hsf hgv
  gi_wp2
  refine ⟨trivial, (callsIn_wide.2 (he _)).mono ?_⟩
  rintro e w1 ⟨rfl, rfl⟩
  gi_wp2
  have hnx : ∀ b : Nat, b < w.heap.size → ((((w.alloc (Obj.cells #[.slice none 0 0] 49)).alloc (.cells #[.int .i64 0] 37)).alloc (.cells #[sv] 28)).alloc (.cells #[gv] 177)).heap[b]? = w.heap[b]? := fun b hb => by
    rw [Below.heap_alloc _ _ _ (by simp; omega), Below.heap_alloc _ _ _ (by simp; omega), Below.heap_alloc _ _ _ (by simp; omega), Below.heap_alloc _ _ _ hb]
  have b0 : Boxed ((((w.alloc (Obj.cells #[.slice none 0 0] 49)).alloc (.cells #[.int .i64 0] 37)).alloc (.cells #[sv] 28)).alloc (.cells #[gv] 177)) w.heap.size 49 (.slice none 0 0) := (((Boxed.new w _ _).alloc _).alloc _).alloc _
  have b1 : Boxed ((((w.alloc (Obj.cells #[.slice none 0 0] 49)).alloc (.cells #[.int .i64 0] 37)).alloc (.cells #[sv] 28)).alloc (.cells #[gv] 177)) (w.heap.size + 1) 37 (.int .i64 0) := by
    have := ((Boxed.new (w.alloc (Obj.cells #[.slice none 0 0] 49)) 37 (.int .i64 0)).alloc (.cells #[sv] 28)).alloc (.cells #[gv] 177)
    rwa [World.size_alloc] at this
  have b2 : Boxed ((((w.alloc (Obj.cells #[.slice none 0 0] 49)).alloc (.cells #[.int .i64 0] 37)).alloc (.cells #[sv] 28)).alloc (.cells #[gv] 177)) (w.heap.size + 2) 28 sv := by
    have := (Boxed.new ((w.alloc (Obj.cells #[.slice none 0 0] 49)).alloc (.cells #[.int .i64 0] 37)) 28 sv).alloc (.cells #[gv] 177)
    simpa using this
  have b3 : Boxed ((((w.alloc (Obj.cells #[.slice none 0 0] 49)).alloc (.cells #[.int .i64 0] 37)).alloc (.cells #[sv] 28)).alloc (.cells #[gv] 177)) (w.heap.size + 3) 177 gv := by
    have := Boxed.new (((w.alloc (Obj.cells #[.slice none 0 0] 49)).alloc (.cells #[.int .i64 0] 37)).alloc (.cells #[sv] 28)) 177 gv
    simpa using this
  have hgr : w.grownBy ((((w.alloc (Obj.cells #[.slice none 0 0] 49)).alloc (.cells #[.int .i64 0] 37)).alloc (.cells #[sv] 28)).alloc (.cells #[gv] 177)) bt := ⟨rfl, rfl, rfl, by simp; omega, fun k hk _ => hnx k hk⟩
  have hsz : ((((w.alloc (Obj.cells #[.slice none 0 0] 49)).alloc (.cells #[.int .i64 0] 37)).alloc (.cells #[sv] 28)).alloc (.cells #[gv] 177)).heap.size = w.heap.size + 4 := by simp
  generalize hW0 : (((w.alloc (Obj.cells #[.slice none 0 0] 49)).alloc (.cells #[.int .i64 0] 37)).alloc (.cells #[sv] 28)).alloc (.cells #[gv] 177) = W0 at *
  have hst : Stat6 ws g o cap sv (w.heap.size + 2) (w.heap.size + 3) (w.heap.size + 4) w.heap.size bt gv W0 := by
    refine ⟨⟨fun i x hx => ?_, hw.le, hw.cap, hw.len, hw.u64⟩, hsv, b2, b3, fun hn => ?_, ⟨by omega, by omega, by omega, by omega⟩, ⟨by omega, by omega, by omega⟩, hgt, ?_, ?_⟩
    · rw [← hw.at_ i x hx]
      exact World.cell?_of_block (hnx g (hg.1 (fun e => by rw [e] at hx; simp at hx)))
    · obtain ⟨x, hx⟩ : ∃ x, ws[0]? = some x := by cases ws with | nil => exact absurd rfl hn | cons x l => exact ⟨x, rfl⟩
      have := hw.at_ 0 x hx
      rw [hnx g (hg.1 hn)]
      unfold World.cell? at this
      cases hh : w.heap[g]? with
      | none => simp [hh] at this
      | some ob =>
        refine ⟨ob, rfl, ?_⟩
        rw [hh] at this
        cases ob <;> simp_all [Obj.isCells]
    · intro e; have := hbt _ e.symm; omega
    · intro e; have := hbt _ e.symm; omega
  have hK0' : K 0 W0 := hKG 0 w W0 none hK0 ⟨hgr.os, hgr.tape, hgr.output, hgr.size, fun k hk _ => hnx k hk⟩ (by simp)
  have hseq := each1_seq 4 hst (by omega) (fun e => by have := hbt _ e.symm; omega) hbeg hK0' (fun t A B hA hB => hKG t A B none hA ⟨hB.os, hB.tape, hB.output, hB.size, fun k hk _ => hB.block k hk⟩ (by simp)) (fun t A B hA hB => hKK _ _ t A B (Nat.le_refl _) (by omega) hA hB)
  refine wpIn_rangeFunc_P rfl (by omega) (gf := 129) (lb := #[.pointer (some ⟨w.heap.size + 2, 0, none⟩), .pointer (some ⟨w.heap.size + 3, 0, none⟩)]) rfl trivial (enters_of Try.func129 (by kernel_rfl) rfl)
    hseq (fun r e => by have := hbt r e; omega) KpW.trans (fun W l o o' h1 h2 h3 _ => KpW.put o' h2 h3 (by omega)) (Below.refl _ _) (fun _ => rfl)
    (WIv w bt) (hsz ▸ WIv.own hbt) (fun pre W h => h.rowIn) ⟨⟨_, b0, World.ownsRow_nil _ _ _ _⟩, b1, hgr, by omega⟩ ?hS
    (fun x a' W => ∃ Bx, w.heap.size + 4 ≤ Bx ∧ W.heap[Bx]? = some (.cells #[.int .i64 x.at_, .int .i64 x.size, .int .i64 x.ptrs, .bool x.gone, .int .u64 x.target] 57 (0, 0)) ∧
      a' = { tmps := #[sv, gv, undef, undef, .pointer (some ⟨w.heap.size, 0, none⟩), .pointer (some ⟨w.heap.size + 1, 0, none⟩), .pointer (some ⟨Bx, 0, none⟩),
        .func (.func 127) #[] #[.pointer (some ⟨w.heap.size, 0, none⟩), .pointer (some ⟨w.heap.size + 1, 0, none⟩)], sv, gv, .func (.func 129) #[] #[.pointer (some ⟨w.heap.size + 2, 0, none⟩), .pointer (some ⟨w.heap.size + 3, 0, none⟩)], obA x, undef, undef, undef, undef, undef], defers := [] })
    ?hAx ?assign ?body ?done ?panic
  case hS =>
    rintro xs X Y row ⟨t, hK, hR⟩ hgr2 hrow
    exact ⟨t, hKG t X Y row hK hgr2 fun r e => (hrow r e).elim (fun e2 => by cases e2) (fun e2 => by omega), hR⟩
  case hAx =>
    rintro x a' s X Y row ⟨Bx, hB, hx, ha⟩ hgr2 hrow
    refine ⟨Bx, hB, (hgr2.block Bx (heap_lt hx) fun e => ?_).trans hx, ha⟩
    rcases hrow Bx e.symm with e2 | ⟨_, o2, h2, h3⟩
    · cases e2
    · rw [hx] at h2; cases h2; cases h3
  case assign =>
    rintro l pre x W K2 hi hK2
    simp only [List.zip_cons_cons, Array.zip, obA]
    gi_wp2
    exact hK2 _ _ ((KeepsOthers.alloc W _).from _) (KpW.alloc _ (by have := hi.size; omega)) ((WIv.own hbt).alloc _ hi) ⟨W.heap.size, hi.size, heap_alloc_new W _, rfl⟩
  case body =>
    rintro l pre x a' W hi ⟨Bx, hBx, hx, rfl⟩ hlen
    obtain ⟨v, hv, hrow⟩ := hi.row
    obtain ⟨i0, hin, hz0, hz1, hz2⟩ := info_parts infoO
    obtain ⟨va, vc, rfl⟩ := own_form hrow
    have c1 := hv.cell
    have c2 := hv.frozen
    have d0 : W.cell? ⟨Bx, 0, none⟩ = some (.int .i64 x.at_) := by rw [cell_of_row _ _ _ _ _ _ hx]; rfl
    have d1 : W.cell? ⟨Bx, 1, none⟩ = some (.int .i64 x.size) := by rw [cell_of_row _ _ _ _ _ _ hx]; rfl
    have d2 : W.cell? ⟨Bx, 2, none⟩ = some (.int .i64 x.ptrs) := by rw [cell_of_row _ _ _ _ _ _ hx]; rfl
    have d3 : W.cell? ⟨Bx, 3, none⟩ = some (.bool x.gone) := by rw [cell_of_row _ _ _ _ _ _ hx]; rfl
    have d4 : W.cell? ⟨Bx, 4, none⟩ = some (.int .u64 x.target) := by rw [cell_of_row _ _ _ _ _ _ hx]; rfl
    have hpl : pre.length ≤ 1000000 := Nat.le_trans (Nat.le_of_lt hlen) hw.len
    have hszW := hi.size
    have HA := fun tmp w1 v' => WIv.appended (W := W) (w1 := w1) (x := x) (v' := v') (tmp := tmp) hbt hi hv hrow
    gi_wp2_with (gi_at_builtin; refine wpListIn_append_own_at _ rfl _ _ 49 rfl (w.heap.size + 4) 57 i0 _ 5 40 unO hin hz0 hz1 hz2 rfl (by decide) _ _ _ rfl (hrow.alloc _) ⟨W.heap.size, 0, none⟩ 1 1 (obC x) rfl rfl (cells5_new _ _ _ _ _ _ _) (by simp [obC, Value.oneCell']) (by unfold maxLen; omega) (by omega) (by simp; omega) ?_; intro v' w1 hown' hgrow _ hat; obtain ⟨g', cap', rfl⟩ := ownsRow_succ hown'; obtain ⟨e1, e2, e3, e4⟩ := HA _ _ _ hown' hgrow hat; have e5 := e1.cell; have e6 := e1.frozen)
    rw [hsz]
    exact ⟨e2, e3, e4⟩
  case done =>
    rintro D xs W hD hS hi hD2
    obtain ⟨v, hv, hrow⟩ := hi.row
    obtain ⟨va, vc, rfl⟩ := own_form hrow
    have c1 := hv.cell
    have c2 := hv.frozen
    have c3 := hi.e.cell
    have c4 := hi.e.frozen
    rw [hsz] at hD
    gi_wp2
    have hDX : ((W.setCell ⟨w.heap.size, 0, none⟩ (.slice va xs.length vc)).setCell ⟨w.heap.size + 1, 0, none⟩ (.int .i64 0)).heap[D]? = some (.deferred (some [])) := by
      rw [Below.heap_setCell _ _ _ _ (by show D ≠ w.heap.size + 1; omega), Below.heap_setCell _ _ _ _ (by show D ≠ w.heap.size; omega)]
      exact hD2
    have f0 : Boxed ((W.setCell ⟨w.heap.size, 0, none⟩ (.slice va xs.length vc)).setCell ⟨w.heap.size + 1, 0, none⟩ (.int .i64 0)) w.heap.size 49 (.slice va xs.length vc) :=
      (Below.heap_setCell _ _ _ _ (by show w.heap.size ≠ w.heap.size + 1; omega)).trans (hv.set _)
    have f1 : Boxed ((W.setCell ⟨w.heap.size, 0, none⟩ (.slice va xs.length vc)).setCell ⟨w.heap.size + 1, 0, none⟩ (.int .i64 0)) (w.heap.size + 1) 37 (.int .i64 0) :=
      Boxed.set _ (show Boxed (W.setCell ⟨w.heap.size, 0, none⟩ (.slice va xs.length vc)) (w.heap.size + 1) 37 (.int .i64 0) from (Below.heap_setCell _ _ _ _ (by show w.heap.size + 1 ≠ w.heap.size; omega)).trans hi.e)
    have g1 := grownBy_setCell' W w.heap.size (.slice va xs.length vc)
    have g2 := grownBy_setCell' (W.setCell ⟨w.heap.size, 0, none⟩ (.slice va xs.length vc)) (w.heap.size + 1) (.int .i64 0)
    have hlow := hrow.lt
    have r2 := (hrow.kept g1 (by
      cases hb : (Value.slice va xs.length vc).ownBlock with
      | none => exact .inl rfl
      | some b => exact .inr fun e => by have := (hlow b hb).1; cases e; omega)).kept g2 (by
      cases hb : (Value.slice va xs.length vc).ownBlock with
      | none => exact .inl rfl
      | some b => exact .inr fun e => by have := (hlow b hb).1; cases e; omega)
    generalize hW2 : (W.setCell ⟨w.heap.size, 0, none⟩ (.slice va xs.length vc)).setCell ⟨w.heap.size + 1, 0, none⟩ (.int .i64 0) = W2 at *
    have g3 := grownBy_putObj' W2 D (.deferred none)
    have f0' : Boxed (W2.putObj D (.deferred none)) w.heap.size 49 (.slice va xs.length vc) := (World.putObj_heap_other (by omega)).trans f0
    have f1' : Boxed (W2.putObj D (.deferred none)) (w.heap.size + 1) 37 (.int .i64 0) := (World.putObj_heap_other (by omega)).trans f1
    have k0 := f0'.cell
    have k1 := f1'.cell
    refine ⟨by simp, .inl ⟨D, _, rfl, run_takeDeferred hDX, ?_⟩⟩
    refine ⟨by simp, .inr ⟨fun h => (by cases h), .func 127, _, 127, #[.pointer (some ⟨w.heap.size, 0, none⟩), .pointer (some ⟨w.heap.size + 1, 0, none⟩)], rfl, by simp [go_sem], fun _ _ => trivial, ?_⟩⟩
    refine (catch_idle _ _ _ _).mono ?_
    rintro e u' w'' ⟨rfl, rfl, rfl⟩
    refine ⟨.tuple #[.slice va xs.length vc, .int .i64 0], by simp [results, Try.results124, go_sem, k0, k1], ?_⟩
    obtain ⟨t, hK, hR⟩ := hS
    refine ⟨_, 0, xs, rfl, grown_row (grown_row (grown_row hi.gr g1 fun r e => .inr ?_) g2 fun r e => .inr ?_) g3 fun r e => .inr ?_, ownsRow_putObj r2 _ hDX rfl, .inl ⟨rfl, t, hKG t _ _ _ (hKG t _ _ _ (hKG t _ _ _ hK g1 fun r e => ?_) g2 fun r e => ?_) g3 fun r e => ?_, hR⟩⟩
    all_goals (cases e; omega)
  case panic =>
    rintro D chain pre W hD ⟨e, he2, rfl, hWk⟩ hi hD2
    rw [hsz] at hD
    obtain ⟨v, hv, hrow⟩ := hi.row
    have g3 := grownBy_putObj' W D (.deferred none)
    have f0' : Boxed (W.putObj D (.deferred none)) w.heap.size 49 v := (World.putObj_heap_other (by omega)).trans hv
    have f1' : Boxed (W.putObj D (.deferred none)) (w.heap.size + 1) 37 (.int .i64 0) := (World.putObj_heap_other (by omega)).trans hi.e
    have hg4 : w.grownBy (W.putObj D (.deferred none)) bt := grown_row hi.gr g3 fun r e => .inr (by cases e; omega)
    refine ⟨by simp, .inl ⟨D, _, rfl, run_takeDeferred hD2, ?_⟩⟩
    refine ⟨by simp, .inr ⟨fun h => (by cases h), .func 127, _, 127, #[.pointer (some ⟨w.heap.size, 0, none⟩), .pointer (some ⟨w.heap.size + 1, 0, none⟩)], rfl, by simp [go_sem], fun _ _ => trivial, ?_⟩⟩
    refine (catch_panicking _ w.heap.size (w.heap.size + 1) e _ _ _ f0' f1' (by omega)).mono ?_
    rintro e' u' w'' ⟨rfl, rfl, h0, h1, ⟨hs2, hk⟩, hos, htape, hout⟩
    have k0 := h0.cell
    have k1 := h1.cell
    refine ⟨.tuple #[.slice none 0 0, .int .i64 e], by simp [results, Try.results124, go_sem, k0, k1], ?_⟩
    refine ⟨_, e, [], rfl, ⟨hos.trans hg4.os, htape.trans hg4.tape, hout.trans hg4.output, Nat.le_trans hg4.size hs2, fun k hk2 hn => ?_⟩, World.ownsRow_nil _ _ _ _, .inr ⟨he2, rfl, hWk⟩⟩
    exact (hk k (Nat.lt_of_lt_of_le hk2 hg4.size) (by omega) (by omega)).trans (hg4.block k hk2 hn)
end Vm
/-
  objects.Walk, objects.WalkOld on plain values.
-/
namespace Vm
open Go Go.Proofs Go.RowKit Go.Shelf
set_option maxHeartbeats 1000000
set_option maxRecDepth 100000
set_option linter.unusedSimpArgs false
set_option linter.unusedVariables false
theorem rd_intv {w : World} {G : Nat → Prop} {k : IntKind} {n : Int} {v : Value} (r : Rd w G (.int k n) v) : v = .int k n := by cases r; rfl
theorem rd_boolv {w : World} {G : Nat → Prop} {b : Bool} {v : Value} (r : Rd w G (.bool b) v) : v = .bool b := by cases r; rfl
theorem words_of_rd {w : World} {G : Nat → Prop} {ws : List Int} {v : Value} (r : Rd w G (.sl (ws.map vu)) v) (hG : ∀ b, G b → b < w.heap.size) (hl : ws.length ≤ 1000000) (hu : ∀ x ∈ ws, U64 x) (q : Nat) :
    ∃ g o cap, Words w ws g o cap ∧ (v = .slice (some ⟨g, o, none⟩) ws.length cap ∨ (ws = [] ∧ ∃ a c, v = .slice a 0 c)) ∧ ((ws ≠ [] → g < w.heap.size) ∧ (g < w.heap.size ∨ g = q)) := by
  generalize hL : ws.map vu = L at r
  cases r with
  | nil a cap hc =>
    have : ws = [] := List.map_eq_nil_iff.1 hL
    subst this
    exact ⟨q, 0, 0, ⟨fun i x hx => by simp at hx, by simp, by unfold maxLen; omega, by simp, by simp⟩, .inr ⟨rfl, a, cap, rfl⟩, fun h => absurd rfl h, .inr rfl⟩
  | sl _ b o cap k vs h1 h2 h3 h4 h5 h6 =>
    subst hL
    simp only [List.length_map] at h1 h5 ⊢
    refine ⟨b, o, cap, ⟨fun i x hx => ?_, h1, h2, hl, hu⟩, .inl rfl, fun _ => hG b h3, .inl (hG b h3)⟩
    have hm : (ws.map vu)[i]? = some (vu x) := by rw [List.getElem?_map, hx]; rfl
    have hk : k = 1 := ((h4 _ (List.mem_of_getElem? hm)).1).symm
    subst hk
    have hi : i < ws.length := (List.getElem?_eq_some_iff.1 hx).1
    rw [h5 i (by omega)]
    have := h6 i (vu x) (by have := flat_at h4 hm 0 (by omega); simpa using this)
    rw [rd_intv this]
theorem shps_of_rd {w : World} {G : Nat → Prop} {shs : List (Int × Int)} {v : Value} (r : Rd w G (.sl (shs.map shP)) v) (hG : ∀ b, G b → b < w.heap.size) :
    (∃ g o cap, v = .slice (some ⟨g, o, none⟩) shs.length cap ∧ shs.length ≤ cap ∧ cap ≤ maxLen ∧ g < w.heap.size ∧ ∀ (i : Nat) (x : Int × Int), shs[i]? = some x → w.cell? ⟨g, o + i * 2, none⟩ = some (.int .i64 x.1) ∧ w.cell? ⟨g, o + i * 2 + 1, none⟩ = some (.int .i64 x.2)) ∨
    (∃ a cap, v = .slice a 0 cap ∧ shs = []) := by
  generalize hL : shs.map shP = L at r
  cases r with
  | nil a cap hc =>
    have : shs = [] := List.map_eq_nil_iff.1 hL
    exact .inr ⟨a, cap, rfl, this⟩
  | sl _ b o cap k vs h1 h2 h3 h4 h5 h6 =>
    subst hL
    simp only [List.length_map] at h1 h5 ⊢
    refine .inl ⟨b, o, cap, rfl, h1, h2, hG b h3, fun i x hx => ?_⟩
    have hm : (shs.map shP)[i]? = some (shP x) := by rw [List.getElem?_map, hx]; rfl
    have hk : k = 2 := ((h4 _ (List.mem_of_getElem? hm)).1).symm
    subst hk
    have hi : i < shs.length := (List.getElem?_eq_some_iff.1 hx).1
    have e0 := h6 (i * 2) (vi x.1) (by have := flat_at h4 hm 0 (by omega); simpa using this)
    have e1 := h6 (i * 2 + 1) (vi x.2) (by have := flat_at h4 hm 1 (by omega); simpa using this)
    refine ⟨?_, ?_⟩
    · rw [h5 (i * 2) (by omega)]
      rw [rd_intv e0]
    · rw [Nat.add_assoc, h5 (i * 2 + 1) (by omega)]
      rw [rd_intv e1]
theorem obs_cells {w : World} {G : Nat → Prop} : ∀ (l : List Ob) (i : Nat) (c : V), (flat (l.map obV))[i]? = some c → Rd w G c ((obsC l).getD i undef)
  | [], i, c, h => by simp [flat] at h
  | x :: l, i, c, h => by
    rw [List.map_cons, flat_cons] at h
    have e : obsC (x :: l) = obC x ++ obsC l := by simp [obsC]
    rw [e]
    by_cases hi : i < 5
    · match i, hi with
      | 0, _ => simp [obV, V.cells] at h; subst h; exact .int _ _
      | 1, _ => simp [obV, V.cells] at h; subst h; exact .int _ _
      | 2, _ => simp [obV, V.cells] at h; subst h; exact .int _ _
      | 3, _ => simp [obV, V.cells] at h; subst h; exact .bool _
      | 4, _ => simp [obV, V.cells] at h; subst h; exact .int _ _
    · have h2 : (flat (l.map obV))[i - 5]? = some c := by
        rw [List.getElem?_append_right (by simp [obV, V.cells]; omega)] at h
        simpa [obV, V.cells] using h
      have := obs_cells (w := w) (G := G) l (i - 5) c h2
      have hg : (obC x ++ obsC l).getD i undef = (obsC l).getD (i - 5) undef := by
        simp only [List.getD_eq_getElem?_getD]
        rw [List.getElem?_append_right (by simp [obC]; omega)]
        simp [obC]
      rw [hg]
      exact this
theorem obs_fit (l : List Ob) : ∀ x ∈ l.map obV, V.fits 5 x := by
  intro x hx
  obtain ⟨o, _, rfl⟩ := List.mem_map.1 hx
  exact ⟨rfl, fun c hc => by simp [obV, V.cells] at hc; rcases hc with rfl | rfl | rfl | rfl | rfl <;> rfl⟩
theorem obs_rd {w : World} {G : Nat → Prop} {B : Nat} {e : TypeId} {v : Value} {l : List Ob} (h : w.ownsRow B e 5 v l.length (obsC l)) (hG : ∀ c, B ≤ c → c < w.heap.size → G c) : Rd w G (.sl (l.map obV)) v := by
  have hlen : (obsC l).length = l.length * 5 := h.1
  rcases h.2 with ⟨rfl, h0⟩ | ⟨g, cap, cur, rfl, hb, hg, hnc, hcm, _⟩
  · have : l = [] := List.length_eq_zero_iff.1 h0
    subst this
    exact .nil _ _ (by unfold maxLen; omega)
  · have := Rd.sl (w := w) (G := G) (l.map obV) g 0 cap 5 (fun i => (obsC l).getD i undef) (by simpa using hnc) hcm (hG g hb (heap_lt hg)) (obs_fit l) (fun i hi => by
        have hi' : i < (obsC l).length := by rw [hlen]; simpa using hi
        rw [Nat.zero_add, h.cellAt i (by rw [← hlen]; exact hi')]
        simp [hi']) (fun i c hc => obs_cells l i c hc)
    simpa using this
theorem walk_e {ws : List Int} {shs : List (Int × Int)} {old : Bool} {K : Nat → World → Prop} {n : Int} {xs : List Ob} {W : World} (h0 : shs = []) (h : (n = 0 ∧ endS ws shs old K xs W) ∨ ((n = 2 ∨ n = 3) ∧ xs = [] ∧ walkW ws shs old = ([], n))) : walkW ws shs old = (xs, n) := by
  subst h0
  rcases h with ⟨rfl, t, _, h⟩ | ⟨_, rfl, h⟩
  · rw [h, if_neg (by simp)]
  · exact h
theorem Walk_ok : WalkOk := by
  intro ws hl hu
  refine ⟨by kernel_rfl, fun w G vs hG hsz hvs => ?_⟩
  have r0 := hvs 0 _ rfl
  obtain ⟨⟨l⟩⟩ := vs
  · simp at hsz
  rename_i v0 l
  cases l with
  | cons _ _ => simp at hsz
  | nil =>
    simp at r0
    obtain ⟨g, o, cap, hw, hsv, hg1, hg2⟩ := words_of_rd r0 hG hl hu (w.heap.size + 1)
    have hk := walk_walk (w := w) (shs := []) (old := false) (bt := none) (K := fun t _ => t = 0) hw hsv ⟨hg1, by omega, by omega⟩ (.inl rfl) (by simp) (by simp) beg_nil rfl (fun t A B row h _ _ => h) (fun bl base t A B _ _ h _ => h)
    obtain ⟨sa, sn, sc, rfl⟩ : ∃ a n c, v0 = .slice a n c := by
      rcases hsv with rfl | ⟨_, a, c, rfl⟩
      · exact ⟨_, _, _, rfl⟩
      · exact ⟨_, _, _, rfl⟩
    have HK := Lib.hid hk
    clear hk hw hsv r0 hvs
    go_enter Try.func112, Try.ntmps112
    go_wp2_with (go_at_call 124; refine HK.out.mono ?_; rintro e w1 ⟨v, n, xs, rfl, hgr, hrow, hE⟩; have HR := Lib.hid (And.intro hgr (And.intro hrow hE)); clear hgr hrow hE)
    obtain ⟨hgr, hrow, hE⟩ := HR.out
    have hW := walk_e rfl hE
    refine bodyPost_ret (v := .tuple #[v, .int .i64 n]) (by simp [results, Try.results112, go_sem]) rfl ⟨_, rfl, (Below.refl _ w).grown hgr (Nat.le_refl _) (fun j e => by cases e), ?_⟩
    rw [hW]
    refine .tup _ _ rfl ?_
    intro i y hy
    match i, hy with
    | 0, hy => cases hy; exact obs_rd hrow fun c h1 h2 => .inr ⟨by omega, h2⟩
    | 1, hy => cases hy; exact .int _ _
theorem KpW.cell {bl base : Nat} {A B : World} (h : KpW bl base A B) {k i : Nat} {c : Value} (hc : A.cell? ⟨k, i, none⟩ = some c) (hk : k < base) (hn : k ≠ bl) : B.cell? ⟨k, i, none⟩ = some c := by
  have hc2 := hc
  unfold World.cell? at hc
  cases hh : A.heap[k]? with
  | none => simp [hh] at hc
  | some ob =>
    have hob : ob.isCells = true := by
      rw [hh] at hc
      cases ob <;> simp_all [Obj.isCells]
    rw [← hc2]
    exact World.cell?_of_block (a := ⟨k, i, none⟩) ((h.same k ob hh hob hn (.inl hk)).trans hh.symm)
theorem KOld.grown {shs : List (Int × Int)} {bt bs t n : Nat} {v : Value} {A B : World} {row : Option Nat} (h : KOld shs bt bs v t A) (hg : A.grownBy B row) (hbt : bt < n) (hbs : bs < n) (hv : shs ≠ [] → ∀ g o cap, v = .slice (some ⟨g, o, none⟩) shs.length cap → g < n) (hr : ∀ r, row = some r → n ≤ r) : KOld shs bt bs v t B := by
  obtain ⟨h1, h2, h3⟩ := h
  exact ⟨(hg.block _ (heap_lt h1) (fun e => by have := hr _ e.symm; omega)).trans h1, h2.grown hg (fun e => by have := hr _ e.symm; omega) (fun hn g o cap e e2 => by have := hr _ e2.symm; have := hv hn _ _ _ e; omega), h3⟩
theorem KOld.kp {shs : List (Int × Int)} {bt bs t n bl base : Nat} {v : Value} {A B : World} (h : KOld shs bt bs v t A) (hg : KpW bl base A B) (hbt : bt < n) (hbs : bs < n) (hv : shs ≠ [] → ∀ g o cap, v = .slice (some ⟨g, o, none⟩) shs.length cap → g < n) (h1 : n ≤ bl) (h2 : n ≤ base) : KOld shs bt bs v t B := by
  obtain ⟨k1, ⟨k2, k3⟩, k4⟩ := h
  refine ⟨hg.same _ _ k1 rfl (by omega) (.inl (by omega)), ⟨hg.same _ _ k2 rfl (by omega) (.inl (by omega)), ?_⟩, k4⟩
  rcases k3 with ⟨g, o, cap, rfl, a1, a2, a3, a4⟩ | h
  · refine .inl ⟨g, o, cap, rfl, a1, a2, Nat.lt_of_lt_of_le a3 hg.size, fun i x hx => ?_⟩
    have := hv (fun e => by rw [e] at hx; simp at hx) _ _ _ rfl
    exact ⟨hg.cell (a4 i x hx).1 (by omega) (by omega), hg.cell (a4 i x hx).2 (by omega) (by omega)⟩
  · exact .inr h
theorem Words.below2 {w W : World} {ws : List Int} {g o cap : Nat} (h : Words w ws g o cap) (hs : ws ≠ [] → g < w.heap.size) (hb : Below w.heap.size w W) : Words W ws g o cap :=
  ⟨fun i x hx => by rw [hb.cell (p := ⟨g, o + i, none⟩) (hs (fun e => by rw [e] at hx; simp at hx))]; exact h.at_ i x hx, h.le, h.cap, h.len, h.u64⟩
theorem WalkOld_ok : WalkOldOk := by
  intro ws shs hl hsl hu hsh
  refine ⟨by kernel_rfl, fun w G vs hG hsz hvs => ?_⟩
  have r0 := hvs 0 _ rfl
  have r1 := hvs 1 _ rfl
  obtain ⟨⟨l⟩⟩ := vs
  · simp at hsz
  rename_i v0 l
  cases l with
  | nil => simp at hsz
  | cons v1 l =>
  cases l with
  | cons _ _ => simp at hsz
  | nil =>
    simp at r0 r1
    obtain ⟨g, o, cap, hw, hsv, hg1, hg2⟩ := words_of_rd r0 hG hl hu (w.heap.size + 3)
    have hv1 := shps_of_rd r1 hG
    obtain ⟨sa, sn, sc, rfl⟩ : ∃ a n c, v0 = .slice a n c := by
      rcases hsv with rfl | ⟨_, a, c, rfl⟩
      · exact ⟨_, _, _, rfl⟩
      · exact ⟨_, _, _, rfl⟩
    obtain ⟨ta, tc, rfl⟩ : ∃ a c, v1 = .slice a shs.length c := by
      rcases hv1 with ⟨_, _, _, rfl, _⟩ | ⟨a, c, rfl, rfl⟩
      · exact ⟨_, _, rfl⟩
      · exact ⟨_, _, rfl⟩
    have b0 : ((w.alloc (.cells #[.slice ta shs.length tc] 154)).alloc (.cells #[.int .i64 0] 3)).heap[w.heap.size]? = some (.cells #[.slice ta shs.length tc] 154 (0, 0)) := (Below.heap_alloc _ _ _ (by simp)).trans (heap_alloc_new w _)
    have b1 : ((w.alloc (.cells #[.slice ta shs.length tc] 154)).alloc (.cells #[.int .i64 0] 3)).heap[w.heap.size + 1]? = some (.cells #[.int .i64 0] 3 (0, 0)) := by
      have := heap_alloc_new (w.alloc (.cells #[.slice ta shs.length tc] 154)) (.cells #[.int .i64 0] 3)
      simpa using this
    have hB1 : Below w.heap.size w ((w.alloc (.cells #[.slice ta shs.length tc] 154)).alloc (.cells #[.int .i64 0] 3)) := ((Below.refl _ w).alloc (Nat.le_refl _) _).alloc (by simp) _
    have hsz1 : ((w.alloc (.cells #[.slice ta shs.length tc] 154)).alloc (.cells #[.int .i64 0] 3)).heap.size = w.heap.size + 2 := by simp
    have hgb : shs ≠ [] → ∀ g o cap, Value.slice ta shs.length tc = .slice (some ⟨g, o, none⟩) shs.length cap → g < w.heap.size := by
      intro hn g o cap e
      rcases hv1 with ⟨g1, o1, c1, e1, _, _, h4, _⟩ | ⟨_, _, _, h⟩
      · rw [e] at e1; cases e1; exact h4
      · exact absurd h hn
    have hk : Calls Try.prog 124 #[.slice sa sn sc, .func (.func 125) #[] #[.pointer (some ⟨w.heap.size + 1, 0, none⟩), .pointer (some ⟨w.heap.size, 0, none⟩)]] ((w.alloc (.cells #[.slice ta shs.length tc] 154)).alloc (.cells #[.int .i64 0] 3))
        (WalkEnd ((w.alloc (.cells #[.slice ta shs.length tc] 154)).alloc (.cells #[.int .i64 0] 3)) ws shs true (some (w.heap.size + 1)) (KOld shs (w.heap.size + 1) w.heap.size (.slice ta shs.length tc))) := by
      generalize hW1 : (w.alloc (.cells #[.slice ta shs.length tc] 154)).alloc (.cells #[.int .i64 0] 3) = W1 at *
      have hgb1 : shs ≠ [] → ∀ g o cap, Value.slice ta shs.length tc = .slice (some ⟨g, o, none⟩) shs.length cap → g < W1.heap.size := fun hn g o cap e => by have := hgb hn g o cap e; omega
      refine walk_walk (hw.below2 hg1 hB1) hsv ⟨fun h => by have := hg1 h; omega, by omega, by omega⟩ (.inr ⟨_, _, rfl⟩) (fun r e => by cases e; omega) (fun e => by cases e; omega) (beg_old hsl (by omega) (fun hn g o cap e => by have := hgb hn g o cap e; omega)) ⟨b1, ⟨b0, ?_⟩, by omega⟩ (fun t A B row h hg hr => h.grown hg (n := W1.heap.size) (by omega) (by omega) hgb1 hr) (fun bl base t A B h1 h2 h hk => h.kp hk (n := W1.heap.size) (by omega) (by omega) hgb1 h1 h2)
      rcases hv1 with ⟨g1, o1, c1, e1, a1, a2, a3, a4⟩ | ⟨a, c, e1, h⟩
      · exact .inl ⟨g1, o1, c1, e1, a1, a2, by omega, fun i x hx => ⟨(hB1.cell (p := ⟨g1, o1 + i * 2, none⟩) a3).trans (a4 i x hx).1, (hB1.cell (p := ⟨g1, o1 + i * 2 + 1, none⟩) a3).trans (a4 i x hx).2⟩⟩
      · exact .inr ⟨a, c, e1, h⟩
    have hrd : ∀ w1 v n (xs : List Ob), (v = .slice none 0 0 ∧ xs = [] ∨ w1.ownsRow (w.heap.size + 6) 57 5 v xs.length (obsC xs)) → walkW ws shs true = (xs, n) → Rd w1 (fun b => true = false ∧ G b ∨ w.heap.size ≤ b ∧ b < w1.heap.size) (.tup [.sl ((walkW ws shs true).1.map obV), vi (walkW ws shs true).2]) (.tuple #[v, .int .i64 n]) := by
      intro w1 v n xs hrow hW
      rw [hW]
      refine .tup _ _ rfl ?_
      intro i y hy
      match i, hy with
      | 0, hy =>
        cases hy
        rcases hrow with ⟨rfl, rfl⟩ | hrow
        · exact .nil _ _ (by unfold maxLen; omega)
        · exact obs_rd hrow fun c h1 h2 => .inr ⟨by omega, h2⟩
      | 1, hy => cases hy; exact .int _ _
    have hk2 : Calls Try.prog 124 #[.slice sa sn sc, .func (.func 125) #[] #[.pointer (some ⟨w.heap.size + 1, 0, none⟩), .pointer (some ⟨w.heap.size, 0, none⟩)]] ((w.alloc (.cells #[.slice ta shs.length tc] 154)).alloc (.cells #[.int .i64 0] 3)) fun e w1 =>
        (∃ (v : Value) (t : Nat), e = .returned (.tuple #[v, .int .i64 0]) ∧ w1.cell? ⟨w.heap.size + 1, 0, none⟩ = some (.int .i64 t) ∧ w1.cell? ⟨w.heap.size, 0, none⟩ = some (.slice ta shs.length tc) ∧ (t : Int) < shs.length ∧ Hid (Below w.heap.size w w1 ∧ Rd w1 (fun b => true = false ∧ G b ∨ w.heap.size ≤ b ∧ b < w1.heap.size) (.tup [.sl ((walkW ws shs true).1.map obV), vi (walkW ws shs true).2]) (.tuple #[.slice none 0 0, .int .i64 3]))) ∨
        (∃ (v : Value) (t : Nat), e = .returned (.tuple #[v, .int .i64 0]) ∧ w1.cell? ⟨w.heap.size + 1, 0, none⟩ = some (.int .i64 t) ∧ w1.cell? ⟨w.heap.size, 0, none⟩ = some (.slice ta shs.length tc) ∧ ¬ (t : Int) < shs.length ∧ Hid (Below w.heap.size w w1 ∧ Rd w1 (fun b => true = false ∧ G b ∨ w.heap.size ≤ b ∧ b < w1.heap.size) (.tup [.sl ((walkW ws shs true).1.map obV), vi (walkW ws shs true).2]) (.tuple #[v, .int .i64 0]))) ∨
        (∃ (v : Value) (n : Int), e = .returned (.tuple #[v, .int .i64 n]) ∧ ¬ n = 0 ∧ Hid (Below w.heap.size w w1 ∧ Rd w1 (fun b => true = false ∧ G b ∨ w.heap.size ≤ b ∧ b < w1.heap.size) (.tup [.sl ((walkW ws shs true).1.map obV), vi (walkW ws shs true).2]) (.tuple #[.slice none 0 0, .int .i64 n]))) := by
      refine hk.mono ?_
      rintro e w1 ⟨v, n, xs, rfl, hgr, hrow, hE⟩
      rw [hsz1] at hrow
      have hB : Below w.heap.size w w1 := hB1.trans ((Below.refl _ _).grown hgr (by rw [hsz1]; omega) (fun j e => by cases e; omega))
      rcases hE with ⟨rfl, t, ⟨hb, hs, ht⟩, hWk⟩ | ⟨hn, rfl, hWk⟩
      · have q1 : w1.cell? ⟨w.heap.size + 1, 0, none⟩ = some (.int .i64 t) := by rw [cell_of_row _ _ _ _ _ _ hb]; rfl
        have q2 : w1.cell? ⟨w.heap.size, 0, none⟩ = some (.slice ta shs.length tc) := by rw [cell_of_row _ _ _ _ _ _ hs.box]; rfl
        by_cases hlt : t < shs.length
        · rw [if_pos hlt] at hWk
          exact .inl ⟨v, t, rfl, q1, q2, by omega, Lib.hid ⟨hB, hrd w1 _ _ [] (.inl ⟨rfl, rfl⟩) hWk⟩⟩
        · rw [if_neg hlt] at hWk
          exact .inr (.inl ⟨v, t, rfl, q1, q2, by omega, Lib.hid ⟨hB, hrd w1 _ _ xs (.inr hrow) hWk⟩⟩)
      · exact .inr (.inr ⟨v, n, rfl, by omega, Lib.hid ⟨hB, hrd w1 _ _ [] (.inl ⟨rfl, rfl⟩) hWk⟩⟩)
    have HK := Lib.hid hk2
    clear hw hsv r0 r1 hvs hv1 hg1 hg2 hk hk2 hB1 b0 b1 hgb hsz1 hrd
    go_enter Try.func114, Try.ntmps114
    have hmf : ∀ (fn : Go.Fn) (first cap : Array Value) (w : World), (Instr.makeFunc fn first cap).run Try.prog w = .ok (.func fn first cap) w := fun _ _ _ _ => rfl
    go_wp2_with (go_at_call 124; refine HK.out.mono ?_; rintro e w1 (⟨v, t, rfl, q1, q2, hlt, HF⟩ | ⟨v, t, rfl, q1, q2, hlt, HF⟩ | ⟨v, n, rfl, hn, HF⟩))
    · refine bodyPost_ret (v := .tuple #[.slice none 0 0, .int .i64 3]) (by simp [results, Try.results114, go_sem]) rfl ⟨_, rfl, HF.out.1, HF.out.2⟩
    · refine bodyPost_ret (v := .tuple #[v, .int .i64 0]) (by simp [results, Try.results114, go_sem]) rfl ⟨_, rfl, HF.out.1, HF.out.2⟩
    · refine bodyPost_ret (v := .tuple #[.slice none 0 0, .int .i64 n]) (by simp [results, Try.results114, go_sem]) rfl ⟨_, rfl, HF.out.1, HF.out.2⟩
end Vm
/-
  Objects held against each other: cromlechref06.Same.
-/
namespace Vm
open Go Go.Proofs Go.RowKit
set_option maxHeartbeats 1000000
set_option maxRecDepth 100000
set_option linter.unusedSimpArgs false
set_option linter.unusedVariables false
def eqF (d : Nat) (xs ys : Array Value) : List (String × TypeId × Nat) → Sem Bool
  | [] => pure true
  | f :: fs => if f.1 ≠ "_" then do
      let a ← part f.2.1 xs f.2.2
      let b ← part f.2.1 ys f.2.2
      let r ← Op.equalIn d f.2.1 a b
      if (!r) = true then pure false else eqF d xs ys fs
    else eqF d xs ys fs
theorem eqFields_eqF (d : Nat) (xs ys : Array Value) : ∀ L : List Field, Op.eqFields d xs ys L = eqF d xs ys (L.map fun f => (f.name, f.type, f.offset))
  | [] => rfl
  | f :: L => by
    rw [Op.eqFields, List.map_cons, eqF, eqFields_eqF d xs ys L]
theorem fldO : ((Try.prog.fieldsOf 57).toList.map fun f => (f.name, f.type, f.offset)) = [("At", 3, 0), ("Shape", 55, 1), ("Gone", 4, 3), ("Target", 24, 4)] := by kernel_rfl
theorem fldS : ((Try.prog.fieldsOf 55).toList.map fun f => (f.name, f.type, f.offset)) = [("Size", 3, 0), ("Ptrs", 3, 1)] := by kernel_rfl
theorem pt1 {T : TypeId} (w : World) (xs : Array Value) (o : Nat) (v : Value) (hT : (Try.prog.underlying T).isSome = true) (hs : Try.prog.cellsOf T = 1) (hn : isAggT Try.prog T = false) (hv : xs[o]? = some v) : Sem.run Try.prog (part T xs o) w = .ok v w := by
  have hlt : o < xs.size := (Array.getElem?_eq_some_iff.1 hv).1
  have := run_part (w := w) hT (by rw [hs]; omega) (vs := xs) (o := o) (by omega)
  rw [this, hn]
  simp [hv]
theorem ptI (w : World) (xs : Array Value) (o : Nat) (v : Value) (hv : xs[o]? = some v) : Sem.run Try.prog (part 3 xs o) w = .ok v w := pt1 w xs o v (by kernel_rfl) (by kernel_rfl) (by kernel_rfl) hv
theorem ptB (w : World) (xs : Array Value) (o : Nat) (v : Value) (hv : xs[o]? = some v) : Sem.run Try.prog (part 4 xs o) w = .ok v w := pt1 w xs o v (by kernel_rfl) (by kernel_rfl) (by kernel_rfl) hv
theorem ptU (w : World) (xs : Array Value) (o : Nat) (v : Value) (hv : xs[o]? = some v) : Sem.run Try.prog (part 24 xs o) w = .ok v w := pt1 w xs o v (by kernel_rfl) (by kernel_rfl) (by kernel_rfl) hv
theorem ptS (w : World) (xs : Array Value) (o : Nat) (h : o + 2 ≤ xs.size) : Sem.run Try.prog (part 55 xs o) w = .ok (.agg (xs.extract o (o + 2))) w := by
  have h2 : Try.prog.cellsOf 55 = 2 := by kernel_rfl
  have := run_part (P := Try.prog) (T := 55) (w := w) (by kernel_rfl) (by rw [h2]; omega) (vs := xs) (o := o) (by rw [h2]; exact h)
  rw [this, h2, show isAggT Try.prog 55 = true by kernel_rfl]
  rfl
theorem eqI (w : World) (d : Nat) (a b : Int) : Sem.run Try.prog (Op.equalIn (d + 1) 3 (.int .i64 a) (.int .i64 b)) w = .ok (a == b) w := run_equalIn_int w d _ .i64 .i64 a b (by kernel_rfl)
theorem eqU (w : World) (d : Nat) (a b : Int) : Sem.run Try.prog (Op.equalIn (d + 1) 24 (.int .u64 a) (.int .u64 b)) w = .ok (a == b) w := run_equalIn_int w d _ .u64 .u64 a b (by kernel_rfl)
theorem eqB (w : World) (d : Nat) (a b : Bool) : Sem.run Try.prog (Op.equalIn (d + 1) 4 (.bool a) (.bool b)) w = .ok (a == b) w := run_equalIn_bool w d _ a b (by kernel_rfl)
theorem eqS (w : World) (d : Nat) (a b c e : Int) : Sem.run Try.prog (Op.equalIn (d + 2) 55 (.agg #[.int .i64 a, .int .i64 b]) (.agg #[.int .i64 c, .int .i64 e])) w = .ok (a == c && b == e) w := by
  rw [run_equalIn_agg w _ _ _ _ (by kernel_rfl) (by kernel_rfl), eqFields_eqF, fldS]
  simp only [eqF, ne_eq, String.reduceEq, not_false_eq_true, if_true, Sem.run_bind]
  rw [ptI w _ 0 (.int .i64 a) rfl, Result.andThen_ok, ptI w _ 0 (.int .i64 c) rfl, Result.andThen_ok, eqI, Result.andThen_ok]
  cases h1 : (a == c)
  · simp
  · simp only [Bool.not_true, Bool.false_eq_true, if_false, Sem.run_bind]
    rw [ptI w _ 1 (.int .i64 b) rfl, Result.andThen_ok, ptI w _ 1 (.int .i64 e) rfl, Result.andThen_ok, eqI, Result.andThen_ok]
    cases h2 : (b == e) <;> simp
theorem eqO (w : World) (d : Nat) (a b : Ob) : Sem.run Try.prog (Op.equalIn (d + 3) 57 (obA a) (obA b)) w = .ok (decide (a = b)) w := by
  obtain ⟨a1, a2, a3, a4, a5⟩ := a
  obtain ⟨b1, b2, b3, b4, b5⟩ := b
  unfold obA
  rw [run_equalIn_agg w _ _ _ _ (by kernel_rfl) (by kernel_rfl), eqFields_eqF, fldO]
  simp only [eqF, ne_eq, String.reduceEq, not_false_eq_true, if_true, Sem.run_bind]
  rw [ptI w _ 0 (.int .i64 a1) rfl, Result.andThen_ok, ptI w _ 0 (.int .i64 b1) rfl, Result.andThen_ok, eqI, Result.andThen_ok]
  cases h1 : (a1 == b1)
  · have : ¬ a1 = b1 := by simpa using h1
    simp [this]
  have h1' : a1 = b1 := by simpa using h1
  simp only [Bool.not_true, Bool.false_eq_true, if_false, Sem.run_bind]
  rw [ptS w _ 1 (by simp), Result.andThen_ok, ptS w _ 1 (by simp), Result.andThen_ok]
  have e1 : ∀ x y z u v : Value, (#[x, y, z, u, v] : Array Value).extract 1 (1 + 2) = #[y, z] := fun _ _ _ _ _ => rfl
  rw [e1, e1, eqS, Result.andThen_ok]
  cases h2 : (a2 == b2 && a3 == b3)
  · have : ¬ (a2 = b2 ∧ a3 = b3) := by
      intro h
      rw [h.1, h.2] at h2
      simp at h2
    simp only [Bool.not_false, if_true, Sem.run_pure]
    congr 1
    symm
    rw [decide_eq_false_iff_not]
    intro h
    cases h
    exact this ⟨rfl, rfl⟩
  have h2' : a2 = b2 ∧ a3 = b3 := by simpa using h2
  simp only [Bool.not_true, Bool.false_eq_true, if_false, Sem.run_bind]
  rw [ptB w _ 3 (.bool a4) rfl, Result.andThen_ok, ptB w _ 3 (.bool b4) rfl, Result.andThen_ok, eqB, Result.andThen_ok]
  cases h3 : (a4 == b4)
  · have : ¬ a4 = b4 := by simpa using h3
    simp [this]
  have h3' : a4 = b4 := by simpa using h3
  simp only [Bool.not_true, Bool.false_eq_true, if_false, Sem.run_bind]
  rw [ptU w _ 4 (.int .u64 a5) rfl, Result.andThen_ok, ptU w _ 4 (.int .u64 b5) rfl, Result.andThen_ok, eqU, Result.andThen_ok]
  cases h4 : (a5 == b5)
  · have : ¬ a5 = b5 := by simpa using h4
    simp [this]
  have h4' : a5 = b5 := by simpa using h4
  simp [h1', h2'.1, h2'.2, h3', h4']
theorem neqO (w : World) (a b : Ob) : Sem.run Try.prog (binOp .neq 57 (obA a) (obA b)) w = .ok (.bool (!(decide (a = b)))) w := by
  have := eqO w 9997 a b
  unfold obA at this ⊢
  rw [run_neq_struct, this]
  rfl
theorem grdO (w : World) (op : BinOp) (x y : Operand) (a b : Ob) : Sem.run Try.prog (eqGuard op 57 x y (obA a) (obA b)) w = .ok () w := by
  unfold obA
  exact run_eqGuard_agg w op _ x y _ _ (by kernel_rfl)
theorem obs_of_rd {w : World} {G : Nat → Prop} {l : List Ob} {v : Value} (r : Rd w G (.sl (l.map obV)) v) (hG : ∀ b, G b → b < w.heap.size) :
    (∃ g o cap, v = .slice (some ⟨g, o, none⟩) l.length cap ∧ l.length ≤ cap ∧ cap ≤ maxLen ∧ g < w.heap.size ∧ ∀ (i : Nat) (x : Ob), l[i]? = some x → w.cell? ⟨g, o + i * 5, none⟩ = some (.int .i64 x.at_) ∧ w.cell? ⟨g, o + i * 5 + 1, none⟩ = some (.int .i64 x.size) ∧
      w.cell? ⟨g, o + i * 5 + 2, none⟩ = some (.int .i64 x.ptrs) ∧ w.cell? ⟨g, o + i * 5 + 3, none⟩ = some (.bool x.gone) ∧ w.cell? ⟨g, o + i * 5 + 4, none⟩ = some (.int .u64 x.target)) ∨
    (∃ a cap, v = .slice a 0 cap ∧ l = []) := by
  generalize hL : l.map obV = L at r
  cases r with
  | nil a cap hc =>
    have : l = [] := List.map_eq_nil_iff.1 hL
    exact .inr ⟨a, cap, rfl, this⟩
  | sl _ b o cap k vs h1 h2 h3 h4 h5 h6 =>
    subst hL
    simp only [List.length_map] at h1 h5 ⊢
    refine .inl ⟨b, o, cap, rfl, h1, h2, hG b h3, fun i x hx => ?_⟩
    have hm : (l.map obV)[i]? = some (obV x) := by rw [List.getElem?_map, hx]; rfl
    have hk : k = 5 := ((h4 _ (List.mem_of_getElem? hm)).1).symm
    subst hk
    have hi : i < l.length := (List.getElem?_eq_some_iff.1 hx).1
    have e0 := h6 (i * 5) (vi x.at_) (by have := flat_at h4 hm 0 (by omega); simpa using this)
    have e1 := h6 (i * 5 + 1) (vi x.size) (by have := flat_at h4 hm 1 (by omega); simpa using this)
    have e2 := h6 (i * 5 + 2) (vi x.ptrs) (by have := flat_at h4 hm 2 (by omega); simpa using this)
    have e3 := h6 (i * 5 + 3) (.bool x.gone) (by have := flat_at h4 hm 3 (by omega); simpa using this)
    have e4 := h6 (i * 5 + 4) (vu x.target) (by have := flat_at h4 hm 4 (by omega); simpa using this)
    refine ⟨?_, ?_, ?_, ?_, ?_⟩
    · rw [h5 (i * 5) (by omega), rd_intv e0]
    · rw [Nat.add_assoc, h5 (i * 5 + 1) (by omega), rd_intv e1]
    · rw [Nat.add_assoc, h5 (i * 5 + 2) (by omega), rd_intv e2]
    · rw [Nat.add_assoc, h5 (i * 5 + 3) (by omega), rd_boolv e3]
    · rw [Nat.add_assoc, h5 (i * 5 + 4) (by omega), rd_intv e4]
theorem drop_eq_iff {a b : List Ob} (hl : a.length = b.length) {i : Nat} {x y : Ob} (hx : a[i]? = some x) (hy : b[i]? = some y) : (a.drop i = b.drop i) ↔ (x = y ∧ a.drop (i + 1) = b.drop (i + 1)) := by
  obtain ⟨h1, rfl⟩ := List.getElem?_eq_some_iff.1 hx
  obtain ⟨h2, rfl⟩ := List.getElem?_eq_some_iff.1 hy
  rw [List.drop_eq_getElem_cons h1, List.drop_eq_getElem_cons h2, List.cons_eq_cons]
theorem same_vc {a b : List Ob} (ha : a.length ≤ 1000000) (hb : b.length ≤ 1000000) : VC Try.prog 36 false [.sl (a.map obV), .sl (b.map obV)] (.bool (decide (a = b))) := by
  refine ⟨by kernel_rfl, fun w G vs hG hsz hvs => ?_⟩
  have r0 := hvs 0 _ rfl
  have r1 := hvs 1 _ rfl
  obtain ⟨⟨l⟩⟩ := vs
  · simp at hsz
  rename_i v0 l
  cases l with
  | nil => simp at hsz
  | cons v1 l =>
  cases l with
  | cons _ _ => simp at hsz
  | nil =>
    simp at r0 r1
    have h0 := obs_of_rd r0 hG
    have h1 := obs_of_rd r1 hG
    obtain ⟨a0, c0, rfl⟩ : ∃ x c, v0 = .slice x a.length c := by
      rcases h0 with ⟨_, _, _, rfl, _⟩ | ⟨x, c, rfl, rfl⟩
      · exact ⟨_, _, rfl⟩
      · exact ⟨_, _, rfl⟩
    obtain ⟨a1, c1, rfl⟩ : ∃ x c, v1 = .slice x b.length c := by
      rcases h1 with ⟨_, _, _, rfl, _⟩ | ⟨x, c, rfl, rfl⟩
      · exact ⟨_, _, rfl⟩
      · exact ⟨_, _, rfl⟩
    have H0 := Lib.hid h0
    have H1 := Lib.hid h1
    clear h0 h1 r0 r1 hvs
    by_cases hl : a.length = b.length
    · go_enter Try.func36, Try.ntmps36
      go_wp2
      go_loopw [5] (fun p wr => ∃ i : Nat, p = .int .i64 i ∧ i ≤ a.length ∧ Hid (Below w.heap.size w wr ∧ decide (a = b) = decide (a.drop i = b.drop i))) (fun p _ => a.length - (intOf p).toNat)
      case atStart => exact ⟨0, rfl, by omega, Lib.hid ⟨Below.refl _ _, by simp⟩⟩
      case round =>
        obtain ⟨i, rfl, hi, HI⟩ := hrel
        by_cases hlt : i < a.length
        · obtain ⟨x, hx⟩ : ∃ x, a[i]? = some x := ⟨_, List.getElem?_eq_getElem hlt⟩
          obtain ⟨y, hy⟩ : ∃ y, b[i]? = some y := ⟨_, List.getElem?_eq_getElem (by omega)⟩
          rcases H0.out with ⟨g0, o0, k0, e0, f0, f1, f2, f3⟩ | ⟨_, _, _, h⟩
          · rcases H1.out with ⟨g1, o1, k1, e1, f4, f5, f6, f7⟩ | ⟨_, _, _, h⟩
            · obtain ⟨p0, p1, p2, p3, p4⟩ := f3 i x hx
              obtain ⟨q0, q1, q2, q3, q4⟩ := f7 i y hy
              have hq := fun W => neqO W x y
              have hg := fun W s t => grdO W .neq s t x y
              unfold obA at hq hg
              obtain ⟨g0lt, g1lt⟩ := And.intro f2 f6
              have hdr := drop_eq_iff hl hx hy
              have HD := Lib.hid hdr
              obtain rfl : a0 = some ⟨g0, o0, none⟩ := by cases e0; rfl
              obtain rfl : a1 = some ⟨g1, o1, none⟩ := by cases e1; rfl
              have hlt2 : i < b.length := by omega
              have hlt' : (i : Int) < a.length := by omega
              have hlt2' : (i : Int) < b.length := by omega
              have d0 := (HI.out.1.cell (p := ⟨g0, o0 + i * 5, none⟩) f2).trans p0
              have d1 := (HI.out.1.cell (p := ⟨g0, o0 + i * 5 + 1, none⟩) f2).trans p1
              have d2 := (HI.out.1.cell (p := ⟨g0, o0 + i * 5 + 2, none⟩) f2).trans p2
              have d3 := (HI.out.1.cell (p := ⟨g0, o0 + i * 5 + 3, none⟩) f2).trans p3
              have d4 := (HI.out.1.cell (p := ⟨g0, o0 + i * 5 + 4, none⟩) f2).trans p4
              have k0' := (HI.out.1.cell (p := ⟨g1, o1 + i * 5, none⟩) f6).trans q0
              have k1' := (HI.out.1.cell (p := ⟨g1, o1 + i * 5 + 1, none⟩) f6).trans q1
              have k2' := (HI.out.1.cell (p := ⟨g1, o1 + i * 5 + 2, none⟩) f6).trans q2
              have k3' := (HI.out.1.cell (p := ⟨g1, o1 + i * 5 + 3, none⟩) f6).trans q3
              have k4' := (HI.out.1.cell (p := ⟨g1, o1 + i * 5 + 4, none⟩) f6).trans q4
              clear hdr f3 f7 p0 p1 p2 p3 p4 q0 q1 q2 q3 q4 f0 f1 f4 f5 f2 f6 hx hy hl e0 e1
              by_cases hxy : x = y
              · have hz := hxy
                rw [← hz] at hq hg k0' k1' k2' k3' k4'
                simp only [decide_true, Bool.not_true] at hq
                clear hz
                have HXY := Lib.hid hxy
                clear hxy
                go_wp2
                go_region
                go_wp2
                refine ⟨⟨i + 1, by simp, by omega, Lib.hid ⟨HI.out.1.drew, ?_⟩⟩, by simp [intOf]; omega⟩
                rw [HI.out.2]
                simp only [HD.out, HXY.out, true_and]
              · have HXY := Lib.hid hxy
                rw [decide_eq_false hxy] at hq
                simp only [Bool.not_false] at hq
                clear hxy
                go_wp2
                go_region
                go_wp2
                refine bodyPost_ret (results_tmp rfl _ _ _) rfl ⟨_, rfl, HI.out.1.drew, ?_⟩
                rw [HI.out.2, decide_eq_false (fun h => HXY.out (HD.out.1 h).1)]
                exact .bool false
            · rw [h] at hy; simp at hy
          · rw [h] at hx; simp at hx
        · have hnlt : ¬ ((i : Int) < a.length) := by omega
          go_wp2
          refine bodyPost_ret (results_tmp rfl _ _ _) rfl ⟨_, rfl, HI.out.1, ?_⟩
          rw [HI.out.2, List.drop_of_length_le (by omega), List.drop_of_length_le (by omega)]
          exact .bool true
    · have : decide (a = b) = false := decide_eq_false (fun h => hl (by rw [h]))
      rw [this]
      go_enter Try.func36, Try.ntmps36
      go_wp2
      exact bodyPost_ret (results_tmp rfl _ _ _) rfl ⟨_, rfl, Below.refl _ _, .bool false⟩
end Vm
