/-
  The deeds of graph.work, walked by hand.
-/
import Derived.Test.YtbmgnmjghhakhaaDa
namespace Vm
open Go Go.Proofs Go.RowKit
set_option maxHeartbeats 1000000
set_option maxRecDepth 100000
set_option linter.unusedSimpArgs false
set_option linter.unusedVariables false
theorem load_none (w : World) (b : Nat) (s x : Int) (br n cap : Nat) (hs : 0 ≤ s) (hsn : s < (n : Int)) (hcap : (n : Int) ≤ 9223372036854775807) (hxe : x = -1)
    (h1 : w.cell? ⟨b, 1, none⟩ = some (.slice (some ⟨br, 0, none⟩) n cap)) (h4 : w.cell? ⟨b, 4, none⟩ = some (.int .i64 s))
    (hx : w.cell? ⟨br, s.toNat, none⟩ = some (.int .i64 x)) :
    Calls Try.prog 64 #[.pointer (some ⟨b, 0, none⟩)] w fun e w' => e = .returned (.tuple #[.int .u64 0, .int .i64 6]) ∧ Dr w w' := by
  have H := Lib.hid (pointer_none w b s x br n cap hs hsn hcap hxe h1 h4 hx)
  clear h1 h4 hx hxe
  go_enter Try.func64, Try.ntmps64
  go_wp2_with fail
  refine H.out.mono ?_
  rintro e w' ⟨rfl, hd⟩
  have HD := Lib.hid hd
  clear hd
  go_wp2
  go_ret2
  exact ⟨rfl, HD.out⟩
theorem load_arg (w : World) (b : Nat) (s i x : Int) (br n cap bn nn ncap m mc : Nat) (ap : Option Addr) (hs : 0 ≤ s) (hsn : s < (n : Int)) (hcap : (n : Int) ≤ 9223372036854775807)
    (hx0 : 0 ≤ x) (hxn : x < (nn : Int)) (hncap : (nn : Int) ≤ 1000000) (him : decide (i < 0) = true ∨ (decide (i < 0) = false ∧ decide ((m : Int) ≤ i) = true)) (hm : (m : Int) ≤ 9223372036854775807)
    (h0 : w.cell? ⟨b, 0, none⟩ = some (.slice (some ⟨bn, 0, none⟩) nn ncap))
    (h1 : w.cell? ⟨b, 1, none⟩ = some (.slice (some ⟨br, 0, none⟩) n cap)) (h4 : w.cell? ⟨b, 4, none⟩ = some (.int .i64 s)) (h5 : w.cell? ⟨b, 5, none⟩ = some (.int .i64 i))
    (hx : w.cell? ⟨br, s.toNat, none⟩ = some (.int .i64 x))
    (hp : w.cell? ⟨bn, x.toNat * 2, none⟩ = some (.slice ap m mc)) :
    Calls Try.prog 64 #[.pointer (some ⟨b, 0, none⟩)] w fun e w' => e = .returned (.tuple #[.int .u64 0, .int .i64 1]) ∧ Dr w w' := by
  have H := Lib.hid (pointer_arg w b s i x br n cap bn nn ncap m mc ap hs hsn hcap hx0 hxn hncap him hm h0 h1 h4 h5 hx hp)
  clear h0 h1 h4 h5 hx hp him
  go_enter Try.func64, Try.ntmps64
  go_wp2_with fail
  refine H.out.mono ?_
  rintro e w' ⟨rfl, hd⟩
  have HD := Lib.hid hd
  clear hd
  go_wp2
  go_ret2
  exact ⟨rfl, HD.out⟩
theorem store_none (w : World) (b : Nat) (s x : Int) (br n cap : Nat) (hs : 0 ≤ s) (hsn : s < (n : Int)) (hcap : (n : Int) ≤ 9223372036854775807) (hxe : x = -1)
    (h1 : w.cell? ⟨b, 1, none⟩ = some (.slice (some ⟨br, 0, none⟩) n cap)) (h4 : w.cell? ⟨b, 4, none⟩ = some (.int .i64 s))
    (hx : w.cell? ⟨br, s.toNat, none⟩ = some (.int .i64 x)) :
    Calls Try.prog 66 #[.pointer (some ⟨b, 0, none⟩)] w fun e w' => e = .returned (.tuple #[.int .u64 0, .int .i64 6]) ∧ Dr w w' := by
  have H := Lib.hid (pointer_none w b s x br n cap hs hsn hcap hxe h1 h4 hx)
  clear h1 h4 hx hxe
  go_enter Try.func66, Try.ntmps66
  go_wp2_with fail
  refine H.out.mono ?_
  rintro e w' ⟨rfl, hd⟩
  have HD := Lib.hid hd
  clear hd
  go_wp2
  go_ret2
  exact ⟨rfl, HD.out⟩
theorem store_arg (w : World) (b : Nat) (s i x : Int) (br n cap bn nn ncap m mc : Nat) (ap : Option Addr) (hs : 0 ≤ s) (hsn : s < (n : Int)) (hcap : (n : Int) ≤ 9223372036854775807)
    (hx0 : 0 ≤ x) (hxn : x < (nn : Int)) (hncap : (nn : Int) ≤ 1000000) (him : decide (i < 0) = true ∨ (decide (i < 0) = false ∧ decide ((m : Int) ≤ i) = true)) (hm : (m : Int) ≤ 9223372036854775807)
    (h0 : w.cell? ⟨b, 0, none⟩ = some (.slice (some ⟨bn, 0, none⟩) nn ncap))
    (h1 : w.cell? ⟨b, 1, none⟩ = some (.slice (some ⟨br, 0, none⟩) n cap)) (h4 : w.cell? ⟨b, 4, none⟩ = some (.int .i64 s)) (h5 : w.cell? ⟨b, 5, none⟩ = some (.int .i64 i))
    (hx : w.cell? ⟨br, s.toNat, none⟩ = some (.int .i64 x))
    (hp : w.cell? ⟨bn, x.toNat * 2, none⟩ = some (.slice ap m mc)) :
    Calls Try.prog 66 #[.pointer (some ⟨b, 0, none⟩)] w fun e w' => e = .returned (.tuple #[.int .u64 0, .int .i64 1]) ∧ Dr w w' := by
  have H := Lib.hid (pointer_arg w b s i x br n cap bn nn ncap m mc ap hs hsn hcap hx0 hxn hncap him hm h0 h1 h4 h5 hx hp)
  clear h0 h1 h4 h5 hx hp him
  go_enter Try.func66, Try.ntmps66
  go_wp2_with fail
  refine H.out.mono ?_
  rintro e w' ⟨rfl, hd⟩
  have HD := Lib.hid hd
  clear hd
  go_wp2
  go_ret2
  exact ⟨rfl, HD.out⟩
theorem get_none (w : World) (b : Nat) (s x : Int) (br n cap : Nat) (hs : 0 ≤ s) (hsn : s < (n : Int)) (hcap : (n : Int) ≤ 9223372036854775807) (hxe : x = -1)
    (h1 : w.cell? ⟨b, 1, none⟩ = some (.slice (some ⟨br, 0, none⟩) n cap)) (h4 : w.cell? ⟨b, 4, none⟩ = some (.int .i64 s))
    (hx : w.cell? ⟨br, s.toNat, none⟩ = some (.int .i64 x)) :
    Calls Try.prog 65 #[.pointer (some ⟨b, 0, none⟩)] w fun e w' => e = .returned (.tuple #[.int .u64 0, .int .i64 6]) ∧ Dr w w' := by
  have H := Lib.hid (scalar_none w b s x br n cap hs hsn hcap hxe h1 h4 hx)
  clear h1 h4 hx hxe
  go_enter Try.func65, Try.ntmps65
  go_wp2_with fail
  refine H.out.mono ?_
  rintro e w' ⟨rfl, hd⟩
  have HD := Lib.hid hd
  clear hd
  go_wp2
  go_ret2
  exact ⟨rfl, HD.out⟩
theorem get_arg (w : World) (b : Nat) (s i x : Int) (br n cap bn nn ncap m mc : Nat) (ap : Option Addr) (hs : 0 ≤ s) (hsn : s < (n : Int)) (hcap : (n : Int) ≤ 9223372036854775807)
    (hx0 : 0 ≤ x) (hxn : x < (nn : Int)) (hncap : (nn : Int) ≤ 1000000) (him : decide (i < 0) = true ∨ (decide (i < 0) = false ∧ decide ((m : Int) ≤ i) = true)) (hm : (m : Int) ≤ 9223372036854775807)
    (h0 : w.cell? ⟨b, 0, none⟩ = some (.slice (some ⟨bn, 0, none⟩) nn ncap))
    (h1 : w.cell? ⟨b, 1, none⟩ = some (.slice (some ⟨br, 0, none⟩) n cap)) (h4 : w.cell? ⟨b, 4, none⟩ = some (.int .i64 s)) (h5 : w.cell? ⟨b, 5, none⟩ = some (.int .i64 i))
    (hx : w.cell? ⟨br, s.toNat, none⟩ = some (.int .i64 x))
    (hp : w.cell? ⟨bn, x.toNat * 2 + 1, none⟩ = some (.slice ap m mc)) :
    Calls Try.prog 65 #[.pointer (some ⟨b, 0, none⟩)] w fun e w' => e = .returned (.tuple #[.int .u64 0, .int .i64 1]) ∧ Dr w w' := by
  have H := Lib.hid (scalar_arg w b s i x br n cap bn nn ncap m mc ap hs hsn hcap hx0 hxn hncap him hm h0 h1 h4 h5 hx hp)
  clear h0 h1 h4 h5 hx hp him
  go_enter Try.func65, Try.ntmps65
  go_wp2_with fail
  refine H.out.mono ?_
  rintro e w' ⟨rfl, hd⟩
  have HD := Lib.hid hd
  clear hd
  go_wp2
  go_ret2
  exact ⟨rfl, HD.out⟩
theorem set_none (w : World) (b : Nat) (s x : Int) (br n cap : Nat) (hs : 0 ≤ s) (hsn : s < (n : Int)) (hcap : (n : Int) ≤ 9223372036854775807) (hxe : x = -1)
    (h1 : w.cell? ⟨b, 1, none⟩ = some (.slice (some ⟨br, 0, none⟩) n cap)) (h4 : w.cell? ⟨b, 4, none⟩ = some (.int .i64 s))
    (hx : w.cell? ⟨br, s.toNat, none⟩ = some (.int .i64 x)) :
    Calls Try.prog 67 #[.pointer (some ⟨b, 0, none⟩)] w fun e w' => e = .returned (.tuple #[.int .u64 0, .int .i64 6]) ∧ Dr w w' := by
  have H := Lib.hid (scalar_none w b s x br n cap hs hsn hcap hxe h1 h4 hx)
  clear h1 h4 hx hxe
  go_enter Try.func67, Try.ntmps67
  go_wp2_with fail
  refine H.out.mono ?_
  rintro e w' ⟨rfl, hd⟩
  have HD := Lib.hid hd
  clear hd
  go_wp2
  go_ret2
  exact ⟨rfl, HD.out⟩
theorem set_arg (w : World) (b : Nat) (s i x : Int) (br n cap bn nn ncap m mc : Nat) (ap : Option Addr) (hs : 0 ≤ s) (hsn : s < (n : Int)) (hcap : (n : Int) ≤ 9223372036854775807)
    (hx0 : 0 ≤ x) (hxn : x < (nn : Int)) (hncap : (nn : Int) ≤ 1000000) (him : decide (i < 0) = true ∨ (decide (i < 0) = false ∧ decide ((m : Int) ≤ i) = true)) (hm : (m : Int) ≤ 9223372036854775807)
    (h0 : w.cell? ⟨b, 0, none⟩ = some (.slice (some ⟨bn, 0, none⟩) nn ncap))
    (h1 : w.cell? ⟨b, 1, none⟩ = some (.slice (some ⟨br, 0, none⟩) n cap)) (h4 : w.cell? ⟨b, 4, none⟩ = some (.int .i64 s)) (h5 : w.cell? ⟨b, 5, none⟩ = some (.int .i64 i))
    (hx : w.cell? ⟨br, s.toNat, none⟩ = some (.int .i64 x))
    (hp : w.cell? ⟨bn, x.toNat * 2 + 1, none⟩ = some (.slice ap m mc)) :
    Calls Try.prog 67 #[.pointer (some ⟨b, 0, none⟩)] w fun e w' => e = .returned (.tuple #[.int .u64 0, .int .i64 1]) ∧ Dr w w' := by
  have H := Lib.hid (scalar_arg w b s i x br n cap bn nn ncap m mc ap hs hsn hcap hx0 hxn hncap him hm h0 h1 h4 h5 hx hp)
  clear h0 h1 h4 h5 hx hp him
  go_enter Try.func67, Try.ntmps67
  go_wp2_with fail
  refine H.out.mono ?_
  rintro e w' ⟨rfl, hd⟩
  have HD := Lib.hid hd
  clear hd
  go_wp2
  go_ret2
  exact ⟨rfl, HD.out⟩
theorem load_walk (w : World) (b : Nat) (s i x : Int) (br n cap bn nn ncap bp m mc : Nat) (hs : 0 ≤ s) (hsn : s < (n : Int)) (hcap : (n : Int) ≤ 9223372036854775807)
    (hx0 : 0 ≤ x) (hxn : x < (nn : Int)) (hncap : (nn : Int) ≤ 1000000) (hi : 0 ≤ i) (him : i < (m : Int)) (hm : (m : Int) ≤ 9223372036854775807)
    (h0 : w.cell? ⟨b, 0, none⟩ = some (.slice (some ⟨bn, 0, none⟩) nn ncap))
    (h1 : w.cell? ⟨b, 1, none⟩ = some (.slice (some ⟨br, 0, none⟩) n cap)) (h4 : w.cell? ⟨b, 4, none⟩ = some (.int .i64 s)) (h5 : w.cell? ⟨b, 5, none⟩ = some (.int .i64 i))
    (hx : w.cell? ⟨br, s.toNat, none⟩ = some (.int .i64 x))
    (hp : w.cell? ⟨bn, x.toNat * 2, none⟩ = some (.slice (some ⟨bp, 0, none⟩) m mc))
    (r y : Int) (v : Value) (hr : 0 ≤ r) (hrn : r < (n : Int)) (h3 : w.cell? ⟨b, 3, none⟩ = some (.int .i64 r)) (hy : w.cell? ⟨bp, i.toNat, none⟩ = some (.int .i64 y)) (hc : w.cell? ⟨br, r.toNat, none⟩ = some v) (hf : w.frozen? ⟨br, r.toNat, none⟩ = false) :
    Calls Try.prog 64 #[.pointer (some ⟨b, 0, none⟩)] w fun e w' => e = .returned (.tuple #[.int .u64 0, .int .i64 0]) ∧ Wrote w ⟨br, r.toNat, none⟩ (.int .i64 y) w' := by
  have H := Lib.hid (pointer_walk w b s i x br n cap bn nn ncap bp m mc hs hsn hcap hx0 hxn hncap hi him hm h0 h1 h4 h5 hx hp)
  go_enter Try.func64, Try.ntmps64
  go_wp2_with fail
  refine H.out.mono ?_
  rintro e w' ⟨rfl, hd⟩
  rw [← hd.cell] at h1 h3 hy hc
  rw [← hd.frozen] at hf
  have HD := Lib.hid hd
  clear hd H
  go_wp2
  go_still_tail 13, (by kernel_rfl)
  change wpList _ _ _ _ _ w'.drew
  have hd : Dr w' w'.drew := (Dr.refl w').drew
  rw [← hd.cell] at h1 h3 hy hc
  rw [← hd.frozen] at hf
  have HE := Lib.hid hd
  clear hd
  generalize w'.drew = w2 at *
  go_wp2
  go_ret2
  exact ⟨rfl, w2, HD.out.trans HE.out, rfl⟩
theorem get_walk (w : World) (b : Nat) (s i x : Int) (br n cap bn nn ncap bp m mc : Nat) (hs : 0 ≤ s) (hsn : s < (n : Int)) (hcap : (n : Int) ≤ 9223372036854775807)
    (hx0 : 0 ≤ x) (hxn : x < (nn : Int)) (hncap : (nn : Int) ≤ 1000000) (hi : 0 ≤ i) (him : i < (m : Int)) (hm : (m : Int) ≤ 9223372036854775807)
    (h0 : w.cell? ⟨b, 0, none⟩ = some (.slice (some ⟨bn, 0, none⟩) nn ncap))
    (h1 : w.cell? ⟨b, 1, none⟩ = some (.slice (some ⟨br, 0, none⟩) n cap)) (h4 : w.cell? ⟨b, 4, none⟩ = some (.int .i64 s)) (h5 : w.cell? ⟨b, 5, none⟩ = some (.int .i64 i))
    (hx : w.cell? ⟨br, s.toNat, none⟩ = some (.int .i64 x))
    (hp : w.cell? ⟨bn, x.toNat * 2 + 1, none⟩ = some (.slice (some ⟨bp, 0, none⟩) m mc))
    (y : Int) (hy : w.cell? ⟨bp, i.toNat, none⟩ = some (.int .u64 y)) :
    Calls Try.prog 65 #[.pointer (some ⟨b, 0, none⟩)] w fun e w' => e = .returned (.tuple #[.int .u64 y, .int .i64 0]) ∧ Dr w w' := by
  have H := Lib.hid (scalar_walk w b s i x br n cap bn nn ncap bp m mc hs hsn hcap hx0 hxn hncap hi him hm h0 h1 h4 h5 hx hp)
  go_enter Try.func65, Try.ntmps65
  go_wp2_with fail
  refine H.out.mono ?_
  rintro e w' ⟨rfl, hd⟩
  rw [← hd.cell] at hy
  have HD := Lib.hid hd
  clear hd H
  go_wp2
  go_ret2
  exact ⟨rfl, HD.out⟩
theorem store_walk (w : World) (b : Nat) (s i x : Int) (br n cap bn nn ncap bp m mc : Nat) (hs : 0 ≤ s) (hsn : s < (n : Int)) (hcap : (n : Int) ≤ 9223372036854775807)
    (hx0 : 0 ≤ x) (hxn : x < (nn : Int)) (hncap : (nn : Int) ≤ 1000000) (hi : 0 ≤ i) (him : i < (m : Int)) (hm : (m : Int) ≤ 9223372036854775807)
    (h0 : w.cell? ⟨b, 0, none⟩ = some (.slice (some ⟨bn, 0, none⟩) nn ncap))
    (h1 : w.cell? ⟨b, 1, none⟩ = some (.slice (some ⟨br, 0, none⟩) n cap)) (h4 : w.cell? ⟨b, 4, none⟩ = some (.int .i64 s)) (h5 : w.cell? ⟨b, 5, none⟩ = some (.int .i64 i))
    (hx : w.cell? ⟨br, s.toNat, none⟩ = some (.int .i64 x))
    (hp : w.cell? ⟨bn, x.toNat * 2, none⟩ = some (.slice (some ⟨bp, 0, none⟩) m mc))
    (r y : Int) (v : Value) (hr : 0 ≤ r) (hrn : r < (n : Int)) (h3 : w.cell? ⟨b, 3, none⟩ = some (.int .i64 r)) (hy : w.cell? ⟨br, r.toNat, none⟩ = some (.int .i64 y)) (hc : w.cell? ⟨bp, i.toNat, none⟩ = some v) (hf : w.frozen? ⟨bp, i.toNat, none⟩ = false) :
    Calls Try.prog 66 #[.pointer (some ⟨b, 0, none⟩)] w fun e w' => e = .returned (.tuple #[.int .u64 0, .int .i64 0]) ∧ Wrote w ⟨bp, i.toNat, none⟩ (.int .i64 y) w' := by
  have H := Lib.hid (pointer_walk w b s i x br n cap bn nn ncap bp m mc hs hsn hcap hx0 hxn hncap hi him hm h0 h1 h4 h5 hx hp)
  go_enter Try.func66, Try.ntmps66
  go_wp2_with fail
  refine H.out.mono ?_
  rintro e w' ⟨rfl, hd⟩
  rw [← hd.cell] at h1 h3 hy hc
  rw [← hd.frozen] at hf
  have HD := Lib.hid hd
  clear hd H
  go_wp2
  go_still_tail 13, (by kernel_rfl)
  change wpList _ _ _ _ _ w'.drew
  have hd : Dr w' w'.drew := (Dr.refl w').drew
  rw [← hd.cell] at h1 h3 hy hc
  rw [← hd.frozen] at hf
  have HE := Lib.hid hd
  clear hd
  generalize w'.drew = w2 at *
  go_wp2
  go_ret2
  exact ⟨rfl, w2, HD.out.trans HE.out, rfl⟩
theorem set_walk (w : World) (b : Nat) (s i x : Int) (br n cap bn nn ncap bp m mc : Nat) (hs : 0 ≤ s) (hsn : s < (n : Int)) (hcap : (n : Int) ≤ 9223372036854775807)
    (hx0 : 0 ≤ x) (hxn : x < (nn : Int)) (hncap : (nn : Int) ≤ 1000000) (hi : 0 ≤ i) (him : i < (m : Int)) (hm : (m : Int) ≤ 9223372036854775807)
    (h0 : w.cell? ⟨b, 0, none⟩ = some (.slice (some ⟨bn, 0, none⟩) nn ncap))
    (h1 : w.cell? ⟨b, 1, none⟩ = some (.slice (some ⟨br, 0, none⟩) n cap)) (h4 : w.cell? ⟨b, 4, none⟩ = some (.int .i64 s)) (h5 : w.cell? ⟨b, 5, none⟩ = some (.int .i64 i))
    (hx : w.cell? ⟨br, s.toNat, none⟩ = some (.int .i64 x))
    (hp : w.cell? ⟨bn, x.toNat * 2 + 1, none⟩ = some (.slice (some ⟨bp, 0, none⟩) m mc))
    (y : Int) (v : Value) (h8 : w.cell? ⟨b, 8, none⟩ = some (.int .u64 y)) (hc : w.cell? ⟨bp, i.toNat, none⟩ = some v) (hf : w.frozen? ⟨bp, i.toNat, none⟩ = false) :
    Calls Try.prog 67 #[.pointer (some ⟨b, 0, none⟩)] w fun e w' => e = .returned (.tuple #[.int .u64 0, .int .i64 0]) ∧ Wrote w ⟨bp, i.toNat, none⟩ (.int .u64 y) w' := by
  have H := Lib.hid (scalar_walk w b s i x br n cap bn nn ncap bp m mc hs hsn hcap hx0 hxn hncap hi him hm h0 h1 h4 h5 hx hp)
  go_enter Try.func67, Try.ntmps67
  go_wp2_with fail
  refine H.out.mono ?_
  rintro e w' ⟨rfl, hd⟩
  rw [← hd.cell] at h8 hc
  rw [← hd.frozen] at hf
  have HD := Lib.hid hd
  clear hd H
  go_wp2
  go_ret2
  exact ⟨rfl, w', HD.out, rfl⟩
end Vm
