/-
  A deed's writes, on the graph they are writes of.
-/
import Derived.Test.YtbmgnmjghhakhaaDf
namespace Vm
open Go Go.Proofs Go.RowKit
set_option maxHeartbeats 1000000
set_option maxRecDepth 100000
set_option linter.unusedSimpArgs false
set_option linter.unusedVariables false
theorem NodesOwn.at {w : World} {B : Nat} : ∀ {ns : List Nd} {xs : List Value}, NodesOwn w B ns xs → xs.length = ns.length * 2 ∧ ∀ (i : Nat) (n : Nd), ns[i]? = some n → ∃ pv dv, xs[i * 2]? = some pv ∧ xs[i * 2 + 1]? = some dv ∧
    w.ownsRow B 3 1 pv n.ptrs.length (nums .i64 n.ptrs) ∧ w.ownsRow B 28 1 dv n.data.length (nums .u64 n.data)
  | [], xs, h => by cases (show xs = [] from h); exact ⟨rfl, fun i n hi => by simp at hi⟩
  | m :: ns, xs, h => by
    obtain ⟨pv, dv, r, rfl, h1, h2, h3⟩ := h
    obtain ⟨h4, h5⟩ := h3.at
    refine ⟨by simp [h4]; omega, fun i n hi => ?_⟩
    match i, hi with
    | 0, hi =>
      simp at hi
      subst hi
      exact ⟨pv, dv, rfl, rfl, h1, h2⟩
    | i + 1, hi =>
      obtain ⟨p, d, q1, q2, q3, q4⟩ := h5 i n (by simpa using hi)
      exact ⟨p, d, by rw [show (i + 1) * 2 = i * 2 + 1 + 1 by omega]; simpa using q1, by rw [show (i + 1) * 2 + 1 = i * 2 + 1 + 1 + 1 by omega]; simpa using q2, q3, q4⟩
theorem NodesOwn.of {w : World} {B : Nat} : ∀ {ns : List Nd} {xs : List Value}, xs.length = ns.length * 2 → (∀ (i : Nat) (n : Nd), ns[i]? = some n → ∃ pv dv, xs[i * 2]? = some pv ∧ xs[i * 2 + 1]? = some dv ∧
    w.ownsRow B 3 1 pv n.ptrs.length (nums .i64 n.ptrs) ∧ w.ownsRow B 28 1 dv n.data.length (nums .u64 n.data)) → NodesOwn w B ns xs
  | [], xs, h, _ => by simpa [NodesOwn] using h
  | m :: ns, xs, h, ha => by
    match xs, h with
    | [], h => simp at h
    | [_], h => simp at h; omega
    | p :: d :: r, h =>
      obtain ⟨pv, dv, q1, q2, q3, q4⟩ := ha 0 m rfl
      simp at q1 q2
      subst q1
      subst q2
      refine ⟨p, d, r, rfl, q3, q4, NodesOwn.of (by simp at h; omega) fun i n hi => ?_⟩
      obtain ⟨pv, dv, q1, q2, q3, q4⟩ := ha (i + 1) n (by simpa using hi)
      exact ⟨pv, dv, by rw [show (i + 1) * 2 = i * 2 + 1 + 1 by omega] at q1; simpa using q1, by rw [show (i + 1) * 2 + 1 = i * 2 + 1 + 1 + 1 by omega] at q2; simpa using q2, q3, q4⟩
theorem Apart.at {L : List (Option Nat)} (h : Apart L) {i j : Nat} {p q : Option Nat} (hi : L[i]? = some p) (hj : L[j]? = some q) (hij : i ≠ j) : ∀ b, p = some b → q ≠ some b := by
  obtain ⟨hi1, hi2⟩ := List.getElem?_eq_some_iff.1 hi
  obtain ⟨hj1, hj2⟩ := List.getElem?_eq_some_iff.1 hj
  have hp := List.pairwise_iff_getElem.1 h
  intro b hb hq
  rcases Nat.lt_or_gt_of_ne hij with hlt | hlt
  · exact hp i j hi1 hj1 hlt b (by rw [hi2, hb]) (by rw [hj2, hq])
  · exact hp j i hj1 hi1 hlt b (by rw [hj2, hq]) (by rw [hi2, hb])
variable {w w' : World} {B b br rc : Nat} {g : Gr} {a : Ac} {nv rv : Value} {xs : List Value}
theorem Dr.below {w w' : World} (h : Dr w w') (B : Nat) : Below B w w' := ⟨h.os, h.tape, h.output, by rw [h.heap]; exact Nat.le_refl _, fun _ _ => by rw [h.heap]⟩
theorem GHas.dr (h : GHas B w g nv rv xs) (hd : Dr w w') : GHas B w' g nv rv xs :=
  ⟨owns_block h.roots fun _ _ => by rw [hd.heap], owns_block h.nodes fun _ _ => by rw [hd.heap], h.inner.keep fun _ _ _ _ => by rw [hd.heap]⟩
theorem Wrote.block {p : Addr} {x : Value} (h : Wrote w p x w') (c : Nat) (hc : c ≠ p.block) : w'.heap[c]? = w.heap[c]? := by
  obtain ⟨w2, hd, rfl⟩ := h
  rw [Below.heap_setCell _ _ _ _ hc, hd.heap]
theorem Wrote.below {p : Addr} {x : Value} (h : Wrote w p x w') (hp : B ≤ p.block) : Below B w w' := by
  obtain ⟨w2, hd, rfl⟩ := h
  exact (hd.below B).setCell hp _
theorem own_dr {e : TypeId} {z n : Nat} {v : Value} {xs : List Value} (h : w.ownsRow B e z v n xs) (hd : Dr w w') : w'.ownsRow B e z v n xs := owns_block h fun _ _ => by rw [hd.heap]
theorem Wrote.stored {c n cap j : Nat} {e : TypeId} {z : Nat} {x : Value} {xs : List Value} (h : Wrote w ⟨c, j, none⟩ x w') (ho : w.ownsRow B e z (.slice (some ⟨c, 0, none⟩) n cap) n xs) :
    w'.ownsRow B e z (.slice (some ⟨c, 0, none⟩) n cap) n (xs.set j x) := by
  obtain ⟨w2, hd, rfl⟩ := h
  exact ((own_dr ho hd).stored j x).1
theorem rooted_has {r x : Int} (h : Wk B w b g a nv (.slice (some ⟨br, 0, none⟩) g.roots.length rc) xs) (hw : Wrote w ⟨br, r.toNat, none⟩ (.int .i64 x) w') :
    GHas B w' (rooted g r x) nv (.slice (some ⟨br, 0, none⟩) g.roots.length rc) xs ∧ Below B w w' ∧ w'.heap[b]? = w.heap[b]? := by
  have hbr := h.own.roots.lt br rfl
  refine ⟨⟨?_, ?_, ?_⟩, hw.below hbr.1, hw.block b fun e => h.apart (some br) (by simp [Value.ownBlock]) (by rw [e])⟩
  · have := hw.stored h.own.roots
    rw [← nums_set] at this
    simpa [rooted] using this
  · exact owns_block h.own.nodes fun c hc => hw.block c fun e => h.rn (by rw [hc, e])
  · exact h.own.inner.keep fun y hy c hc => hw.block c fun e => h.rx y hy (by rw [hc, e])
/-- a write into one of the inner lists -/
theorem inner_has {k bp j : Nat} {y yv : Value} (h : Wk B w b g a nv rv xs) (hk : xs[k]? = some yv) (hy : yv.ownBlock = some bp) (hw : Wrote w ⟨bp, j, none⟩ y w') :
    Below B w w' ∧ w'.heap[b]? = w.heap[b]? ∧ w'.ownsRow B 3 1 rv g.roots.length (nums .i64 g.roots) ∧ w'.ownsRow B 32 2 nv g.nodes.length xs ∧
      ∀ (i : Nat) (x : Value), i ≠ k → xs[i]? = some x → ∀ c, x.ownBlock = some c → w'.heap[c]? = w.heap[c]? := by
  have hm := List.mem_of_getElem? hk
  have hb := (h.own.inner.lt yv hm bp hy).1
  have hap := h.own.apart
  refine ⟨hw.below hb, hw.block b fun e => h.apart yv.ownBlock (by simp only [List.mem_cons, List.mem_map]; exact .inr (.inr ⟨yv, hm, rfl⟩)) (by rw [hy, e]), ?_, ?_, ?_⟩
  · exact owns_block h.own.roots fun c hc => hw.block c fun e => hap.at (i := 0) (j := k + 2) (p := rv.ownBlock) (q := yv.ownBlock) (by rfl) (by simp [hk]) (by omega) c hc (by rw [hy, e])
  · exact owns_block h.own.nodes fun c hc => hw.block c fun e => hap.at (i := 1) (j := k + 2) (p := nv.ownBlock) (q := yv.ownBlock) (by rfl) (by simp [hk]) (by omega) c hc (by rw [hy, e])
  · exact fun i x hi hx c hc => hw.block c fun e => hap.at (i := i + 2) (j := k + 2) (p := x.ownBlock) (q := yv.ownBlock) (by simp [hx]) (by simp [hk]) (by omega) c hc (by rw [hy, e])
theorem turned_ptrs {i j bp mc : Nat} {n : Nd} {y : Int} (h : Wk B w b g a nv rv xs) (hn : g.nodes[i]? = some n) (hk : xs[i * 2]? = some (.slice (some ⟨bp, 0, none⟩) n.ptrs.length mc)) (hw : Wrote w ⟨bp, j, none⟩ (.int .i64 y) w') :
    GHas B w' (turned g i ⟨n.ptrs.set j y, n.data⟩) nv rv xs ∧ Below B w w' ∧ w'.heap[b]? = w.heap[b]? := by
  obtain ⟨h1, h2, h3, h4, h5⟩ := inner_has h hk rfl hw
  refine ⟨⟨by simpa [turned] using h3, by simpa [turned] using h4, ?_⟩, h1, h2⟩
  obtain ⟨hl, ha⟩ := h.own.inner.at
  refine NodesOwn.of (by simp [turned, hl]) fun i' n' hn' => ?_
  simp only [turned, Int.toNat_natCast] at hn'
  by_cases hi : i' = i
  · subst hi
    rw [List.getElem?_set_self (List.getElem?_eq_some_iff.1 hn).1] at hn'
    cases hn'
    obtain ⟨pv, dv, q1, q2, q3, q4⟩ := ha i' n hn
    rw [hk] at q1
    cases q1
    refine ⟨_, dv, hk, q2, ?_, owns_block q4 (h5 _ dv (by omega) q2)⟩
    have := hw.stored q3
    rw [← nums_set] at this
    simpa using this
  · rw [List.getElem?_set_ne (fun e => hi e.symm)] at hn'
    obtain ⟨pv, dv, q1, q2, q3, q4⟩ := ha i' n' hn'
    exact ⟨pv, dv, q1, q2, owns_block q3 (h5 _ pv (by omega) q1), owns_block q4 (h5 _ dv (by omega) q2)⟩
theorem turned_data {i j bp mc : Nat} {n : Nd} {y : Int} (h : Wk B w b g a nv rv xs) (hn : g.nodes[i]? = some n) (hk : xs[i * 2 + 1]? = some (.slice (some ⟨bp, 0, none⟩) n.data.length mc)) (hw : Wrote w ⟨bp, j, none⟩ (.int .u64 y) w') :
    GHas B w' (turned g i ⟨n.ptrs, n.data.set j y⟩) nv rv xs ∧ Below B w w' ∧ w'.heap[b]? = w.heap[b]? := by
  obtain ⟨h1, h2, h3, h4, h5⟩ := inner_has h hk rfl hw
  refine ⟨⟨by simpa [turned] using h3, by simpa [turned] using h4, ?_⟩, h1, h2⟩
  obtain ⟨hl, ha⟩ := h.own.inner.at
  refine NodesOwn.of (by simp [turned, hl]) fun i' n' hn' => ?_
  simp only [turned, Int.toNat_natCast] at hn'
  by_cases hi : i' = i
  · subst hi
    rw [List.getElem?_set_self (List.getElem?_eq_some_iff.1 hn).1] at hn'
    cases hn'
    obtain ⟨pv, dv, q1, q2, q3, q4⟩ := ha i' n hn
    rw [hk] at q2
    cases q2
    refine ⟨pv, _, q1, hk, owns_block q3 (h5 _ pv (by omega) q1), ?_⟩
    have := hw.stored q4
    rw [← nums_set] at this
    simpa using this
  · rw [List.getElem?_set_ne (fun e => hi e.symm)] at hn'
    obtain ⟨pv, dv, q1, q2, q3, q4⟩ := ha i' n' hn'
    exact ⟨pv, dv, q1, q2, owns_block q3 (h5 _ pv (by omega) q1), owns_block q4 (h5 _ dv (by omega) q2)⟩
end Vm
