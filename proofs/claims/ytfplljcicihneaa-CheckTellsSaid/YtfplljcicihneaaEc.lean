/-
  'append(x, make([]T, n)...)' onto a row of the call's own, T of one cell.
-/
import Derived.Test.YtfplljcicihneaaEb
import Derived.Lib.AppendZerosOnto
import Derived.Lib.SliceRun
import Derived.Laws.CopyOwn
namespace Vm
open Go Go.Proofs Go.RowKit
set_option maxHeartbeats 2000000
set_option maxRecDepth 100000
set_option linter.unusedSimpArgs false
set_option linter.unusedVariables false
theorem zeroCells_one (z : Value) (n : Nat) : (Builtin.zeroCells #[z] n).toList = List.replicate n z := by
  simp [Builtin.zeroCells]
  apply List.ext_getElem
  · simp
  · intro i h1 h2
    simp [Nat.mod_one]
theorem run_appendZ {P : Program} {w : World} {T tI ty e : TypeId} {i : TypeInfo} {z : Value} {kn : IntKind} (ht : P.underlying T = some (.slice e)) (hI : P.underlying tI = some (.int kn)) (hi : P.info? e = some i) (hz : i.zero = some z)
    (hzc : z.cells = #[z]) (h1 : z.oneCell' = true) (hs : i.size = 1) (hb : i.bytes = 8) {B n m : Nat} {v : Value} {xs : List Value} (hown : w.ownsRow B e 1 v n xs) (hB : B ≤ w.heap.size) (hm : 0 < m) (hlim : n + m ≤ 4294967296) (kq : IntKind) :
    ∃ v' w', (Builtin.append_ #[T, tI] ty #[v, .int kq m]).run P w = .ok v' w' ∧ w'.ownsRow B e 1 v' (n + m) (xs ++ List.replicate m z) ∧ w.grownBy w' v.ownBlock ∧
      (v'.ownBlock = v.ownBlock ∨ (w.grownBy w' none ∧ w'.ownsRow w.heap.size e 1 v' (n + m) (xs ++ List.replicate m z))) := by
  have hl1 : xs.length = n := by have := hown.1; simpa using this
  have hlen : (xs ++ List.replicate m z).length = n + m := by simp [hl1]
  have h63 : n + m ≤ maxLen := by simp only [maxLen]; omega
  have grown : ∀ (old : Nat), old < n + m → ∀ (row : Option Nat) (cs : Array Value), cs = xs.toArray ++ (List.replicate m z).toArray →
      (w.drew.alloc (.cells (cs ++ Builtin.zeroCells z.cells (grownCap w (n + m) old e - (n + m))) e)).ownsRow w.heap.size e 1
        (.slice (some ⟨w.heap.size, 0, none⟩) (n + m) (grownCap w (n + m) old e)) (n + m) (xs ++ List.replicate m z) ∧
      w.grownBy (w.drew.alloc (.cells (cs ++ Builtin.zeroCells z.cells (grownCap w (n + m) old e - (n + m))) e)) row := by
    rintro old ho row cs rfl
    have hge := grownCap_ge w (n + m) old e
    have hcm : grownCap w (n + m) old e ≤ maxLen := grownCap_le_maxLen w (n + m) old e h63
    refine ⟨⟨by simpa using hlen, .inr ⟨w.heap.size, _, _, rfl, Nat.le_refl _, heap_alloc_new w.drew _, hge, hcm, ?_, ?_⟩⟩, ⟨rfl, rfl, rfl, by simp, fun k hk _ => Below.heap_alloc w.drew _ k hk⟩⟩
    · simp only [Array.size_append, List.size_toArray, size_zeroCells, hzc]
      simp [hl1]
      omega
    · simp only [Array.toList_append, List.append_assoc]
      rw [← List.append_assoc, Nat.mul_one, ← hlen]
      exact List.take_left
  have hzz : Builtin.zeroCells z.cells m = (List.replicate m z).toArray := by
    rw [hzc]
    apply Array.ext'
    rw [zeroCells_one]
  rcases hown.2 with ⟨rfl, rfl⟩ | ⟨g, cap, cur, rfl, hbg, hg, hnc, hcm, hcsz, htake⟩
  · have hx : xs = [] := List.eq_nil_of_length_eq_zero hl1
    subst hx
    have hr := Lib.run_append_nil_zeros (P := P) w T tI ty e i z kq kn ht hI hi hz m hm (by omega) (by omega) (by rw [hb]; omega)
    have hgr := grown 0 (by omega)
    simp only [Nat.zero_add, List.nil_append, Array.empty_append] at hgr hr ⊢
    rw [hzz] at hr
    obtain ⟨g1, g2⟩ := hgr none _ rfl
    exact ⟨_, _, hr, own_lower g1 hB, g2, .inr ⟨g2, g1⟩⟩
  · by_cases hroom : n + m ≤ cap
    · have hfit : n + (List.replicate m z).length ≤ cur.size := by simp; omega
      have hst := run_storeCells_at P g n e (List.replicate m z) 0 cur w hg (by simpa using hfit) (by intro v hv; rw [List.eq_of_mem_replicate hv]; exact h1)
      simp only [Nat.add_zero] at hst
      have hw : IntKind.i64.wrap (m : Int) = m := by rw [IntKind.wrap_i64]; omega
      have hneg : ¬ ((m : Int) < 0) := by omega
      have h48i : ¬ (281474976710656 < (m : Int) * 8) := by omega
      have hk : m ≠ 0 := by omega
      have hr : (Builtin.append_ #[T, tI] ty #[.slice (some ⟨g, 0, none⟩) n cap, .int kq m]).run P w =
          .ok (.slice (some ⟨g, 0, none⟩) (n + m) cap) (w.setRow g (cur.toList.take n ++ List.replicate m z ++ cur.toList.drop (n + (List.replicate m z).length)).toArray) := by
        simp [Builtin.append_, run_underlying ht, run_underlying hI, Go.sizeOf, typeInfo, zeroValue, hi, hz, asInt, asIntOf, hw, hneg, hs, hb, h48i, hk, hroom, hzz, Addr.add_lit]
        simp at hst
        rw [hst]
        simp
      refine ⟨_, _, hr, ⟨by simpa using hlen, .inr ⟨g, cap, _, rfl, hbg, setRow_heap w g cur _ e _ hg, hroom, hcm, ?_, ?_⟩⟩, ⟨rfl, rfl, rfl, by simp, fun k _ hk => setRow_other w g k _ (fun e => hk (by simp [Value.ownBlock, e]))⟩, .inl rfl⟩
      · simp only [List.size_toArray, List.length_append, List.length_take, List.length_drop, Array.length_toList]
        simp at hfit ⊢
        omega
      · rw [Nat.mul_one] at htake ⊢
        rw [htake, ← hlen]
        exact List.take_left
    · have holds : ∀ j u, xs[j]? = some u → w.cell? ((⟨g, 0, none⟩ : Addr).add j) = some u := hown.cells (g := g) rfl
      have hfo := run_firstCells_some (P := P) w.drew i.size n ⟨g, 0, none⟩ n cap xs (by rw [hs, Nat.mul_one]; exact hl1) (by simpa using holds)
      have hr := Lib.run_append_grow_zeros (P := P) w T tI ty e i z kq kn ht hI hi hz (some ⟨g, 0, none⟩) n cap xs hfo m hm (by omega) (by omega) (by omega) (by rw [hb]; omega) (growslice_fits (by omega) (by rw [hb]; omega))
      rw [hzz] at hr
      obtain ⟨g1, g2⟩ := grown cap (by omega) none _ rfl
      obtain ⟨_, g3⟩ := grown cap (by omega) (Value.ownBlock (.slice (some ⟨g, 0, none⟩) n cap)) _ rfl
      exact ⟨_, _, hr, own_lower g1 hB, g3, .inr ⟨g2, g1⟩⟩
end Vm
