/-
  What walks by hand lean on (of any program), and (*heap.work).part.
-/
import Derived.Test.YtfplljcicihneaaChecked
import Derived.Test.YtfplljcicihneaaV3
import Derived.Test.YtfplljcicihneaaBc
import Derived.WalkKit
import Derived.WalkSpells
import Derived.WalkLawsBesides
import Derived.StillTailTactics
import Derived.Deep.RegionHeld3
import Derived.Deep.AppendLies
import Derived.Deep.Onto
import Derived.Deep.RegionLaw
import Derived.Deep.OwnRows
import Derived.Lib.Hide
namespace Vm
open Go Go.Proofs Go.RowKit
set_option maxHeartbeats 2000000
set_option maxRecDepth 100000
set_option linter.unusedSimpArgs false
set_option linter.unusedVariables false
/-- the world has drawn, no more -/
structure Dr (w w' : World) : Prop where
  heap : w'.heap = w.heap
  os : w'.os = w.os
  tape : w'.tape = w.tape
  output : w'.output = w.output
theorem Dr.refl (w : World) : Dr w w := ⟨rfl, rfl, rfl, rfl⟩
theorem Dr.drew {w w' : World} (h : Dr w w') : Dr w w'.drew := ⟨h.heap, h.os, h.tape, h.output⟩
theorem Dr.trans {a b c : World} (h : Dr a b) (k : Dr b c) : Dr a c := ⟨k.heap.trans h.heap, k.os.trans h.os, k.tape.trans h.tape, k.output.trans h.output⟩
theorem Dr.cell {w w' : World} (h : Dr w w') (p : Addr) : w'.cell? p = w.cell? p := by unfold World.cell?; rw [h.heap]
theorem Dr.frozen {w w' : World} (h : Dr w w') (p : Addr) : w'.frozen? p = w.frozen? p := by unfold World.frozen?; rw [h.heap]
def Wrote (w : World) (p : Addr) (x : Value) (w' : World) : Prop := ∃ w2, Dr w w2 ∧ w' = w2.setCell p x
section
variable {P : Program} {w : World}
/-- append onto nil or onto a list of the call's own, at an operation -/
theorem wp_appendO {o : Oper} {a : Act} {K : Act → World → Prop} {Q : Exit → Act → World → Prop} (s x : Operand) (t : TypeId)
    (ho : o.op = .call { callee := .builtin .append, args := #[s, x], argTypes := #[t, t] }) {e : TypeId} (ht : P.underlying t = some (.slice e)) (hel : elOk P e = true)
    {B n : Nat} {v y : Value} {xs : List Value} (hs : a.eval s = v) (hx : a.eval x = y) (hown : w.ownsRow B e (P.cellsOf e) v n xs) (hB : B ≤ w.heap.size)
    {Gy : Nat → Prop} {l : List V} (hy : Rd w Gy (.sl l) y) (hk : sizeOk (P.cellsOf e) l = true) (hlim : n + l.length ≤ lim)
    (h : ∀ v' w' news, w'.ownsRow B e (P.cellsOf e) v' (n + l.length) (xs ++ news) → w.grownBy w' v.ownBlock → (v'.ownBlock = v.ownBlock ∨ (w.grownBy w' none ∧ w'.ownsRow w.heap.size e (P.cellsOf e) v' (n + l.length) (xs ++ news))) →
      (∀ (i : Nat) (ck : V), (flat l)[i]? = some ck → ∃ u, news[i]? = some u ∧ Rd w Gy ck u) → K (a.put o.dst v') w') : o.wp P a w K Q := by
  obtain ⟨v', w', news, hr, h1, h2, h3, _, h5⟩ := run_appendO (ty := o.type) ht hel hown hB hy hk hlim
  unfold Oper.wp execOp
  simp only [ho, resolve, invoke, builtin, Sem.run_bind, Sem.run_pure, Result.andThen_ok, List.map_toArray, List.map_cons, List.map_nil, hs, hx, hr]
  exact h v' w' news h1 h2 h3 h5
theorem wpList_appendO {ops : Array Oper} {rest : List Oper} {o : Oper} {a : Act} {Q : Exit → Act → World → Prop} (hgd : o.guard = none) (s x : Operand) (t : TypeId)
    (ho : o.op = .call { callee := .builtin .append, args := #[s, x], argTypes := #[t, t] }) {e : TypeId} (ht : P.underlying t = some (.slice e)) (hel : elOk P e = true)
    {B n : Nat} {v y : Value} {xs : List Value} (hs : a.eval s = v) (hx : a.eval x = y) (hown : w.ownsRow B e (P.cellsOf e) v n xs) (hB : B ≤ w.heap.size)
    {Gy : Nat → Prop} {l : List V} (hy : Rd w Gy (.sl l) y) (hk : sizeOk (P.cellsOf e) l = true) (hlim : n + l.length ≤ lim)
    (h : ∀ v' w' news, w'.ownsRow B e (P.cellsOf e) v' (n + l.length) (xs ++ news) → w.grownBy w' v.ownBlock → (v'.ownBlock = v.ownBlock ∨ (w.grownBy w' none ∧ w'.ownsRow w.heap.size e (P.cellsOf e) v' (n + l.length) (xs ++ news))) →
      (∀ (i : Nat) (ck : V), (flat l)[i]? = some ck → ∃ u, news[i]? = some u ∧ Rd w Gy ck u) → wpList P ops Q rest (a.put o.dst v') w') : wpList P ops Q (o :: rest) a w :=
  wpList_plain hgd fun _ hK => wp_appendO s x t ho ht hel hs hx hown hB hy hk hlim fun v' w' news h1 h2 h3 h4 => hK _ _ (h v' w' news h1 h2 h3 h4)
theorem step_appendO {ops : Array Oper} {o : Oper} {a : Act} {K : Act → World → Prop} {Q : Exit → Act → World → Prop} {E : Prop} (hgd : o.guard = none) (s x : Operand) (t : TypeId)
    (ho : o.op = .call { callee := .builtin .append, args := #[s, x], argTypes := #[t, t] }) {e : TypeId} (ht : P.underlying t = some (.slice e)) (hel : elOk P e = true)
    {B n : Nat} {v y : Value} {xs : List Value} (hs : a.eval s = v) (hx : a.eval x = y) (hown : w.ownsRow B e (P.cellsOf e) v n xs) (hB : B ≤ w.heap.size)
    {Gy : Nat → Prop} {l : List V} (hy : Rd w Gy (.sl l) y) (hk : sizeOk (P.cellsOf e) l = true) (hlim : n + l.length ≤ lim)
    (h : ∀ v' w' news, w'.ownsRow B e (P.cellsOf e) v' (n + l.length) (xs ++ news) → w.grownBy w' v.ownBlock → (v'.ownBlock = v.ownBlock ∨ (w.grownBy w' none ∧ w'.ownsRow w.heap.size e (P.cellsOf e) v' (n + l.length) (xs ++ news))) →
      (∀ (i : Nat) (ck : V), (flat l)[i]? = some ck → ∃ u, news[i]? = some u ∧ Rd w Gy ck u) → K (a.put o.dst v') w') :
    if Region.wanted o (yielded ops a.tmps) = true then Oper.wp P o a w K Q else E := by
  have hw : Region.wanted o (yielded ops a.tmps) = true := by simp [Region.wanted, hgd]
  rw [if_pos hw]
  exact wp_appendO s x t ho ht hel hs hx hown hB hy hk hlim h
end
/-- numbers of a kind, as a list's cells -/
def nums (k : IntKind) (l : List Int) : List Value := l.map (Value.int k)
theorem news_nums {w : World} {G : Nat → Prop} {k : IntKind} {l : List Int} {news : List Value} (h : ∀ (i : Nat) (ck : V), (flat (l.map (V.int k)))[i]? = some ck → ∃ u, news[i]? = some u ∧ Rd w G ck u) (hl : news.length = l.length) : news = nums k l := by
  have hflat : flat (l.map (V.int k)) = l.map (V.int k) := by
    clear h hl
    induction l with
    | nil => rfl
    | cons a l ih => rw [List.map_cons, flat_cons, ih]; rfl
  apply List.ext_getElem?
  intro i
  unfold nums
  by_cases hi : i < l.length
  · obtain ⟨u, hu, hr⟩ := h i (.int k l[i]) (by rw [hflat, List.getElem?_map, List.getElem?_eq_getElem hi]; rfl)
    rw [hu, List.getElem?_map, List.getElem?_eq_getElem hi]
    cases hr; rfl
  · rw [List.getElem?_eq_none (by omega), List.getElem?_eq_none (by simp; omega)]
theorem own_form {w : World} {B : Nat} {e : TypeId} {z n : Nat} {v : Value} {xs : List Value} (h : w.ownsRow B e z v n xs) : ∃ a c, v = .slice a n c := by
  rcases h.2 with ⟨rfl, rfl⟩ | ⟨g, cap, cur, rfl, _⟩
  · exact ⟨_, _, rfl⟩
  · exact ⟨_, _, rfl⟩
theorem owns_block {w w' : World} {B : Nat} {e : TypeId} {z n : Nat} {v : Value} {xs : List Value} (h : w.ownsRow B e z v n xs) (hs : ∀ b, v.ownBlock = some b → w'.heap[b]? = w.heap[b]?) : w'.ownsRow B e z v n xs := by
  refine ⟨h.1, ?_⟩
  rcases h.2 with ⟨h1, h2⟩ | ⟨g, cap, cur, rfl, h2, h3, h4⟩
  · exact .inl ⟨h1, h2⟩
  · exact .inr ⟨g, cap, cur, rfl, h2, by rw [hs g rfl]; exact h3, h4⟩
theorem frz_of {w : World} {b o : Nat} {cs : Array Value} {T : TypeId} (h : w.heap[b]? = some (.cells cs T (0, 0))) : w.frozen? ⟨b, o, none⟩ = false := by
  simp [World.frozen?, h]
/-- no block stands twice -/
def Apart (L : List (Option Nat)) : Prop := L.Pairwise fun a c => ∀ b, a = some b → c ≠ some b
theorem elU : elOk Try.prog 24 = true := by kernel_rfl
theorem ceU : Try.prog.cellsOf 24 = 1 := by kernel_rfl
theorem heap_lt {w : World} {b : Nat} {o : Obj} (h : w.heap[b]? = some o) : b < w.heap.size := (Array.getElem?_eq_some_iff.1 h).1
theorem new_of {w w' : World} {e : TypeId} {z n B : Nat} {v : Value} {xs : List Value} (h : v.ownBlock = none ∨ (w.grownBy w' none ∧ w'.ownsRow w.heap.size e z v n xs)) : ∀ b, v.ownBlock = some b → w.heap.size ≤ b := by
  intro b hb
  rcases h with h | ⟨_, h⟩
  · rw [h] at hb; cases hb
  · exact (h.lt b hb).1
theorem frz_new (w : World) (cs : Array Value) (T : TypeId) (o : Nat) : (w.alloc (.cells cs T)).frozen? ⟨w.heap.size, o, none⟩ = false :=
  frz_of (heap_alloc_new w (.cells cs T))
theorem own_lower {w : World} {B B' : Nat} {e : TypeId} {z n : Nat} {v : Value} {xs : List Value} (h : w.ownsRow B e z v n xs) (hB : B' ≤ B) : w.ownsRow B' e z v n xs := by
  refine ⟨h.1, ?_⟩
  rcases h.2 with h2 | ⟨g, cap, cur, hv, hb, h3⟩
  · exact .inl h2
  · exact .inr ⟨g, cap, cur, hv, Nat.le_trans hB hb, h3⟩
theorem nums_set (k : IntKind) (l : List Int) (i : Nat) (x : Int) : nums k (l.set i x) = (nums k l).set i (.int k x) := by unfold nums; rw [List.map_set]
theorem infoU : (Try.prog.info? 24).map (fun i => (i.zero, i.size, i.bytes)) = some (some (.int .u64 0), 1, 8) := by kernel_rfl
section
variable {w : World} {B : Nat} {G : Nat → Prop}
theorem flat_ints {k : IntKind} (l : List Int) : flat (l.map (V.int k)) = l.map (V.int k) := by
  induction l with
  | nil => rfl
  | cons a l ih => rw [List.map_cons, flat_cons, ih]; rfl
theorem own_rd {k : IntKind} {e : TypeId} {v : Value} {l : List Int} (h : w.ownsRow B e 1 v l.length (nums k l)) (hG : ∀ c, B ≤ c → c < w.heap.size → G c) : Rd w G (.sl (l.map (V.int k))) v := by
  rcases h.2 with ⟨rfl, h0⟩ | ⟨g, cap, cur, rfl, hb, hg, hnc, hcm, _⟩
  · have : l = [] := List.length_eq_zero_iff.1 h0
    subst this
    exact .nil _ _ (by unfold maxLen; omega)
  · have := Rd.sl (w := w) (G := G) (l.map (V.int k)) g 0 cap 1 (fun i => (nums k l).getD i undef) (by simpa using hnc) hcm (hG g hb (heap_lt hg)) (fun x hx => by
      obtain ⟨n, _, rfl⟩ := List.mem_map.1 hx
      exact ⟨rfl, fun c hc => by simp [V.cells] at hc; subst hc; rfl⟩) (fun i hi => by
        have hi' : i < l.length := by simpa using hi
        rw [Nat.zero_add, h.cellAt i (by omega)]
        simp [nums, hi']) (fun i c hc => by
        rw [flat_ints] at hc
        obtain ⟨hi, rfl⟩ := List.getElem?_eq_some_iff.1 hc
        have hi' : i < l.length := by simpa using hi
        simp [nums, hi']
        exact .int _ _)
    simpa using this
end
def partsO (b : Nat) : Value := .agg #[.pointer (some ⟨b, 5, none⟩), .pointer (some ⟨b, 6, none⟩), .pointer (some ⟨b, 7, none⟩), .pointer (some ⟨b, 8, none⟩)]
theorem part_walk (w : World) (b k : Nat) (hk : k = 1 ∨ k = 2 ∨ k = 3 ∨ k = 4) :
    Calls Try.prog 90 #[.pointer (some ⟨b, 0, none⟩), .int .i64 k] w fun e w' => e = .returned (.pointer (some ⟨b, 4 + k, none⟩)) ∧ Below w.heap.size w w' := by
  go_enter Try.func90, Try.ntmps90
  rcases hk with rfl | rfl | rfl | rfl
  all_goals
    go_wp2
    go_region
    go_wp2
    go_ret
    exact ⟨rfl, ((Below.refl _ _).alloc (Nat.le_refl _) _).drew⟩
end Vm
