/-
  The methods of graph.work, walked by hand: where pointers are told, and one write.
-/
import Derived.Test.YtbmgnmjghhakhaaChecked
import Derived.WalkKit
import Derived.WalkSpells
import Derived.WalkLawsBesides
import Derived.StillTailTactics
import Derived.Lib.Hide
namespace Vm
open Go Go.Proofs Go.RowKit
set_option maxHeartbeats 1000000
set_option maxRecDepth 100000
set_option linter.unusedSimpArgs false
set_option linter.unusedVariables false
/-- the world has drawn, no more -/
structure Dr (w w' : World) : Prop where
  heap : w'.heap = w.heap
  os : w'.os = w.os
  tape : w'.tape = w.tape
  output : w'.output = w.output
theorem Dr.refl (w : World) : Dr w w := ⟨rfl, rfl, rfl, rfl⟩
theorem Dr.drew {w w' : World} (h : Dr w w') : Dr w w'.drew := ⟨h.heap, h.os, h.tape, h.output⟩
theorem Dr.trans {a b c : World} (h : Dr a b) (k : Dr b c) : Dr a c := ⟨k.heap.trans h.heap, k.os.trans h.os, k.tape.trans h.tape, k.output.trans h.output⟩
theorem Dr.cell {w w' : World} (h : Dr w w') (p : Addr) : w'.cell? p = w.cell? p := by unfold World.cell?; rw [h.heap]
theorem Dr.frozen {w w' : World} (h : Dr w w') (p : Addr) : w'.frozen? p = w.frozen? p := by unfold World.frozen?; rw [h.heap]
def Wrote (w : World) (p : Addr) (x : Value) (w' : World) : Prop := ∃ w2, Dr w w2 ∧ w' = w2.setCell p x

theorem drop_walk (w : World) (b : Nat) (r : Int) (br n cap : Nat) (v : Value) (hr : 0 ≤ r) (hrn : r < (n : Int)) (hcap : (n : Int) ≤ 9223372036854775807)
    (h1 : w.cell? ⟨b, 1, none⟩ = some (.slice (some ⟨br, 0, none⟩) n cap)) (h3 : w.cell? ⟨b, 3, none⟩ = some (.int .i64 r))
    (hc : w.cell? ⟨br, r.toNat, none⟩ = some v) (hf : w.frozen? ⟨br, r.toNat, none⟩ = false) :
    Calls Try.prog 69 #[.pointer (some ⟨b, 0, none⟩)] w fun e w' => e = .returned (.tuple #[.int .u64 0, .int .i64 0]) ∧ Wrote w ⟨br, r.toNat, none⟩ (.int .i64 (-1)) w' := by
  go_enter Try.func69, Try.ntmps69
  go_wp2
  go_still_tail 11, (by kernel_rfl)
  change wpList _ _ _ _ _ w.drew
  have hd : Dr w w.drew := (Dr.refl w).drew
  rw [← hd.cell] at h1 h3 hc
  rw [← hd.frozen] at hf
  have HD := Lib.hid hd
  clear hd
  generalize w.drew = w2 at *
  go_wp2
  go_ret2
  exact ⟨rfl, w2, HD.out, rfl⟩
theorem assign_walk (w : World) (b : Nat) (r s x : Int) (br n cap : Nat) (v : Value) (hr : 0 ≤ r) (hrn : r < (n : Int)) (hs : 0 ≤ s) (hsn : s < (n : Int)) (hcap : (n : Int) ≤ 9223372036854775807)
    (h1 : w.cell? ⟨b, 1, none⟩ = some (.slice (some ⟨br, 0, none⟩) n cap)) (h3 : w.cell? ⟨b, 3, none⟩ = some (.int .i64 r)) (h4 : w.cell? ⟨b, 4, none⟩ = some (.int .i64 s))
    (hx : w.cell? ⟨br, s.toNat, none⟩ = some (.int .i64 x))
    (hc : w.cell? ⟨br, r.toNat, none⟩ = some v) (hf : w.frozen? ⟨br, r.toNat, none⟩ = false) :
    Calls Try.prog 68 #[.pointer (some ⟨b, 0, none⟩)] w fun e w' => e = .returned (.tuple #[.int .u64 0, .int .i64 0]) ∧ Wrote w ⟨br, r.toNat, none⟩ (.int .i64 x) w' := by
  go_enter Try.func68, Try.ntmps68
  go_wp2
  go_still_tail 23, (by kernel_rfl)
  change wpList _ _ _ _ _ w.drew
  have hd : Dr w w.drew := (Dr.refl w).drew
  rw [← hd.cell] at h1 h3 h4 hx hc
  rw [← hd.frozen] at hf
  have HD := Lib.hid hd
  clear hd
  generalize w.drew = w2 at *
  go_wp2
  go_ret2
  exact ⟨rfl, w2, HD.out, rfl⟩
theorem pointer_walk (w : World) (b : Nat) (s i x : Int) (br n cap bn nn ncap bp m mc : Nat) (hs : 0 ≤ s) (hsn : s < (n : Int)) (hcap : (n : Int) ≤ 9223372036854775807)
    (hx0 : 0 ≤ x) (hxn : x < (nn : Int)) (hncap : (nn : Int) ≤ 1000000) (hi : 0 ≤ i) (him : i < (m : Int)) (hm : (m : Int) ≤ 9223372036854775807)
    (h0 : w.cell? ⟨b, 0, none⟩ = some (.slice (some ⟨bn, 0, none⟩) nn ncap))
    (h1 : w.cell? ⟨b, 1, none⟩ = some (.slice (some ⟨br, 0, none⟩) n cap)) (h4 : w.cell? ⟨b, 4, none⟩ = some (.int .i64 s)) (h5 : w.cell? ⟨b, 5, none⟩ = some (.int .i64 i))
    (hx : w.cell? ⟨br, s.toNat, none⟩ = some (.int .i64 x))
    (hp : w.cell? ⟨bn, x.toNat * 2, none⟩ = some (.slice (some ⟨bp, 0, none⟩) m mc)) :
    Calls Try.prog 71 #[.pointer (some ⟨b, 0, none⟩)] w fun e w' => e = .returned (.tuple #[.pointer (some ⟨bp, i.toNat, none⟩), .int .i64 0]) ∧ Dr w w' := by
  go_enter Try.func71, Try.ntmps71
  go_wp2
  go_still_tail 12, (by kernel_rfl)
  change wpList _ _ _ _ _ w.drew
  have hd : Dr w w.drew := (Dr.refl w).drew
  rw [← hd.cell] at h0 h1 h4 h5 hx hp
  have HD := Lib.hid hd
  clear hd
  generalize w.drew = w2 at *
  go_wp2
  go_ret2
  exact ⟨rfl, HD.out⟩
theorem pointer_none (w : World) (b : Nat) (s x : Int) (br n cap : Nat) (hs : 0 ≤ s) (hsn : s < (n : Int)) (hcap : (n : Int) ≤ 9223372036854775807) (hxe : x = -1)
    (h1 : w.cell? ⟨b, 1, none⟩ = some (.slice (some ⟨br, 0, none⟩) n cap)) (h4 : w.cell? ⟨b, 4, none⟩ = some (.int .i64 s))
    (hx : w.cell? ⟨br, s.toNat, none⟩ = some (.int .i64 x)) :
    Calls Try.prog 71 #[.pointer (some ⟨b, 0, none⟩)] w fun e w' => e = .returned (.tuple #[.pointer none, .int .i64 6]) ∧ Dr w w' := by
  subst hxe
  go_enter Try.func71, Try.ntmps71
  go_wp2
  go_still_tail 12, (by kernel_rfl)
  change wpList _ _ _ _ _ w.drew
  have hd : Dr w w.drew := (Dr.refl w).drew
  rw [← hd.cell] at h1 h4 hx
  have HD := Lib.hid hd
  clear hd
  generalize w.drew = w2 at *
  go_wp2
  go_ret2
  exact ⟨rfl, HD.out⟩
theorem pointer_arg (w : World) (b : Nat) (s i x : Int) (br n cap bn nn ncap m mc : Nat) (ap : Option Addr) (hs : 0 ≤ s) (hsn : s < (n : Int)) (hcap : (n : Int) ≤ 9223372036854775807)
    (hx0 : 0 ≤ x) (hxn : x < (nn : Int)) (hncap : (nn : Int) ≤ 1000000) (him : decide (i < 0) = true ∨ (decide (i < 0) = false ∧ decide ((m : Int) ≤ i) = true)) (hm : (m : Int) ≤ 9223372036854775807)
    (h0 : w.cell? ⟨b, 0, none⟩ = some (.slice (some ⟨bn, 0, none⟩) nn ncap))
    (h1 : w.cell? ⟨b, 1, none⟩ = some (.slice (some ⟨br, 0, none⟩) n cap)) (h4 : w.cell? ⟨b, 4, none⟩ = some (.int .i64 s)) (h5 : w.cell? ⟨b, 5, none⟩ = some (.int .i64 i))
    (hx : w.cell? ⟨br, s.toNat, none⟩ = some (.int .i64 x))
    (hp : w.cell? ⟨bn, x.toNat * 2, none⟩ = some (.slice ap m mc)) :
    Calls Try.prog 71 #[.pointer (some ⟨b, 0, none⟩)] w fun e w' => e = .returned (.tuple #[.pointer none, .int .i64 1]) ∧ Dr w w' := by
  go_enter Try.func71, Try.ntmps71
  go_wp2
  go_still_tail 12, (by kernel_rfl)
  change wpList _ _ _ _ _ w.drew
  have hd : Dr w w.drew := (Dr.refl w).drew
  rw [← hd.cell] at h0 h1 h4 h5 hx hp
  have HD := Lib.hid hd
  clear hd
  generalize w.drew = w2 at *
  rcases him with hi | ⟨hi, hmi⟩
  all_goals
    go_wp2
    go_ret2
    exact ⟨rfl, HD.out⟩
theorem scalar_walk (w : World) (b : Nat) (s i x : Int) (br n cap bn nn ncap bp m mc : Nat) (hs : 0 ≤ s) (hsn : s < (n : Int)) (hcap : (n : Int) ≤ 9223372036854775807)
    (hx0 : 0 ≤ x) (hxn : x < (nn : Int)) (hncap : (nn : Int) ≤ 1000000) (hi : 0 ≤ i) (him : i < (m : Int)) (hm : (m : Int) ≤ 9223372036854775807)
    (h0 : w.cell? ⟨b, 0, none⟩ = some (.slice (some ⟨bn, 0, none⟩) nn ncap))
    (h1 : w.cell? ⟨b, 1, none⟩ = some (.slice (some ⟨br, 0, none⟩) n cap)) (h4 : w.cell? ⟨b, 4, none⟩ = some (.int .i64 s)) (h5 : w.cell? ⟨b, 5, none⟩ = some (.int .i64 i))
    (hx : w.cell? ⟨br, s.toNat, none⟩ = some (.int .i64 x))
    (hp : w.cell? ⟨bn, x.toNat * 2 + 1, none⟩ = some (.slice (some ⟨bp, 0, none⟩) m mc)) :
    Calls Try.prog 72 #[.pointer (some ⟨b, 0, none⟩)] w fun e w' => e = .returned (.tuple #[.pointer (some ⟨bp, i.toNat, none⟩), .int .i64 0]) ∧ Dr w w' := by
  go_enter Try.func72, Try.ntmps72
  go_wp2
  go_still_tail 12, (by kernel_rfl)
  change wpList _ _ _ _ _ w.drew
  have hd : Dr w w.drew := (Dr.refl w).drew
  rw [← hd.cell] at h0 h1 h4 h5 hx hp
  have HD := Lib.hid hd
  clear hd
  generalize w.drew = w2 at *
  go_wp2
  go_ret2
  exact ⟨rfl, HD.out⟩
theorem scalar_none (w : World) (b : Nat) (s x : Int) (br n cap : Nat) (hs : 0 ≤ s) (hsn : s < (n : Int)) (hcap : (n : Int) ≤ 9223372036854775807) (hxe : x = -1)
    (h1 : w.cell? ⟨b, 1, none⟩ = some (.slice (some ⟨br, 0, none⟩) n cap)) (h4 : w.cell? ⟨b, 4, none⟩ = some (.int .i64 s))
    (hx : w.cell? ⟨br, s.toNat, none⟩ = some (.int .i64 x)) :
    Calls Try.prog 72 #[.pointer (some ⟨b, 0, none⟩)] w fun e w' => e = .returned (.tuple #[.pointer none, .int .i64 6]) ∧ Dr w w' := by
  subst hxe
  go_enter Try.func72, Try.ntmps72
  go_wp2
  go_still_tail 12, (by kernel_rfl)
  change wpList _ _ _ _ _ w.drew
  have hd : Dr w w.drew := (Dr.refl w).drew
  rw [← hd.cell] at h1 h4 hx
  have HD := Lib.hid hd
  clear hd
  generalize w.drew = w2 at *
  go_wp2
  go_ret2
  exact ⟨rfl, HD.out⟩
theorem scalar_arg (w : World) (b : Nat) (s i x : Int) (br n cap bn nn ncap m mc : Nat) (ap : Option Addr) (hs : 0 ≤ s) (hsn : s < (n : Int)) (hcap : (n : Int) ≤ 9223372036854775807)
    (hx0 : 0 ≤ x) (hxn : x < (nn : Int)) (hncap : (nn : Int) ≤ 1000000) (him : decide (i < 0) = true ∨ (decide (i < 0) = false ∧ decide ((m : Int) ≤ i) = true)) (hm : (m : Int) ≤ 9223372036854775807)
    (h0 : w.cell? ⟨b, 0, none⟩ = some (.slice (some ⟨bn, 0, none⟩) nn ncap))
    (h1 : w.cell? ⟨b, 1, none⟩ = some (.slice (some ⟨br, 0, none⟩) n cap)) (h4 : w.cell? ⟨b, 4, none⟩ = some (.int .i64 s)) (h5 : w.cell? ⟨b, 5, none⟩ = some (.int .i64 i))
    (hx : w.cell? ⟨br, s.toNat, none⟩ = some (.int .i64 x))
    (hp : w.cell? ⟨bn, x.toNat * 2 + 1, none⟩ = some (.slice ap m mc)) :
    Calls Try.prog 72 #[.pointer (some ⟨b, 0, none⟩)] w fun e w' => e = .returned (.tuple #[.pointer none, .int .i64 1]) ∧ Dr w w' := by
  go_enter Try.func72, Try.ntmps72
  go_wp2
  go_still_tail 12, (by kernel_rfl)
  change wpList _ _ _ _ _ w.drew
  have hd : Dr w w.drew := (Dr.refl w).drew
  rw [← hd.cell] at h0 h1 h4 h5 hx hp
  have HD := Lib.hid hd
  clear hd
  generalize w.drew = w2 at *
  rcases him with hi | ⟨hi, hmi⟩
  all_goals
    go_wp2
    go_ret2
    exact ⟨rfl, HD.out⟩
end Vm
