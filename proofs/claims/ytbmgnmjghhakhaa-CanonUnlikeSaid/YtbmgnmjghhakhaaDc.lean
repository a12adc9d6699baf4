/-
  graph.own, walked by hand: all lists of what it tells are new, and apart.
-/
import Derived.Test.YtbmgnmjghhakhaaDa
import Derived.Test.YtbmgnmjghhakhaaV3
import Derived.Test.YtbmgnmjghhakhaaW1
import Derived.Deep.RegionHeld3
import Derived.Deep.AppendLies
import Derived.Deep.Onto
namespace Vm
open Go Go.Proofs Go.RowKit
set_option maxHeartbeats 2000000
set_option maxRecDepth 100000
set_option linter.unusedSimpArgs false
set_option linter.unusedVariables false
section
variable {P : Program} {w : World}
/-- append onto nil or onto a list of the call's own, at an operation -/
theorem wp_appendO {o : Oper} {a : Act} {K : Act → World → Prop} {Q : Exit → Act → World → Prop} (s x : Operand) (t : TypeId)
    (ho : o.op = .call { callee := .builtin .append, args := #[s, x], argTypes := #[t, t] }) {e : TypeId} (ht : P.underlying t = some (.slice e)) (hel : elOk P e = true)
    {B n : Nat} {v y : Value} {xs : List Value} (hs : a.eval s = v) (hx : a.eval x = y) (hown : w.ownsRow B e (P.cellsOf e) v n xs) (hB : B ≤ w.heap.size)
    {Gy : Nat → Prop} {l : List V} (hy : Rd w Gy (.sl l) y) (hk : sizeOk (P.cellsOf e) l = true) (hlim : n + l.length ≤ lim)
    (h : ∀ v' w' news, w'.ownsRow B e (P.cellsOf e) v' (n + l.length) (xs ++ news) → w.grownBy w' v.ownBlock → (v'.ownBlock = v.ownBlock ∨ (w.grownBy w' none ∧ w'.ownsRow w.heap.size e (P.cellsOf e) v' (n + l.length) (xs ++ news))) →
      (∀ (i : Nat) (ck : V), (flat l)[i]? = some ck → ∃ u, news[i]? = some u ∧ Rd w Gy ck u) → K (a.put o.dst v') w') : o.wp P a w K Q := by
  obtain ⟨v', w', news, hr, h1, h2, h3, _, h5⟩ := run_appendO (ty := o.type) ht hel hown hB hy hk hlim
  unfold Oper.wp execOp
  simp only [ho, resolve, invoke, builtin, Sem.run_bind, Sem.run_pure, Result.andThen_ok, List.map_toArray, List.map_cons, List.map_nil, hs, hx, hr]
  exact h v' w' news h1 h2 h3 h5
theorem wpList_appendO {ops : Array Oper} {rest : List Oper} {o : Oper} {a : Act} {Q : Exit → Act → World → Prop} (hgd : o.guard = none) (s x : Operand) (t : TypeId)
    (ho : o.op = .call { callee := .builtin .append, args := #[s, x], argTypes := #[t, t] }) {e : TypeId} (ht : P.underlying t = some (.slice e)) (hel : elOk P e = true)
    {B n : Nat} {v y : Value} {xs : List Value} (hs : a.eval s = v) (hx : a.eval x = y) (hown : w.ownsRow B e (P.cellsOf e) v n xs) (hB : B ≤ w.heap.size)
    {Gy : Nat → Prop} {l : List V} (hy : Rd w Gy (.sl l) y) (hk : sizeOk (P.cellsOf e) l = true) (hlim : n + l.length ≤ lim)
    (h : ∀ v' w' news, w'.ownsRow B e (P.cellsOf e) v' (n + l.length) (xs ++ news) → w.grownBy w' v.ownBlock → (v'.ownBlock = v.ownBlock ∨ (w.grownBy w' none ∧ w'.ownsRow w.heap.size e (P.cellsOf e) v' (n + l.length) (xs ++ news))) →
      (∀ (i : Nat) (ck : V), (flat l)[i]? = some ck → ∃ u, news[i]? = some u ∧ Rd w Gy ck u) → wpList P ops Q rest (a.put o.dst v') w') : wpList P ops Q (o :: rest) a w :=
  wpList_plain hgd fun _ hK => wp_appendO s x t ho ht hel hs hx hown hB hy hk hlim fun v' w' news h1 h2 h3 h4 => hK _ _ (h v' w' news h1 h2 h3 h4)
theorem step_appendO {ops : Array Oper} {o : Oper} {a : Act} {K : Act → World → Prop} {Q : Exit → Act → World → Prop} {E : Prop} (hgd : o.guard = none) (s x : Operand) (t : TypeId)
    (ho : o.op = .call { callee := .builtin .append, args := #[s, x], argTypes := #[t, t] }) {e : TypeId} (ht : P.underlying t = some (.slice e)) (hel : elOk P e = true)
    {B n : Nat} {v y : Value} {xs : List Value} (hs : a.eval s = v) (hx : a.eval x = y) (hown : w.ownsRow B e (P.cellsOf e) v n xs) (hB : B ≤ w.heap.size)
    {Gy : Nat → Prop} {l : List V} (hy : Rd w Gy (.sl l) y) (hk : sizeOk (P.cellsOf e) l = true) (hlim : n + l.length ≤ lim)
    (h : ∀ v' w' news, w'.ownsRow B e (P.cellsOf e) v' (n + l.length) (xs ++ news) → w.grownBy w' v.ownBlock → (v'.ownBlock = v.ownBlock ∨ (w.grownBy w' none ∧ w'.ownsRow w.heap.size e (P.cellsOf e) v' (n + l.length) (xs ++ news))) →
      (∀ (i : Nat) (ck : V), (flat l)[i]? = some ck → ∃ u, news[i]? = some u ∧ Rd w Gy ck u) → K (a.put o.dst v') w') :
    if Region.wanted o (yielded ops a.tmps) = true then Oper.wp P o a w K Q else E := by
  have hw : Region.wanted o (yielded ops a.tmps) = true := by simp [Region.wanted, hgd]
  rw [if_pos hw]
  exact wp_appendO s x t ho ht hel hs hx hown hB hy hk hlim h
end
/-- numbers of a kind, as a list's cells -/
def nums (k : IntKind) (l : List Int) : List Value := l.map (Value.int k)
theorem news_nums {w : World} {G : Nat → Prop} {k : IntKind} {l : List Int} {news : List Value} (h : ∀ (i : Nat) (ck : V), (flat (l.map (V.int k)))[i]? = some ck → ∃ u, news[i]? = some u ∧ Rd w G ck u) (hl : news.length = l.length) : news = nums k l := by
  have hflat : flat (l.map (V.int k)) = l.map (V.int k) := by
    clear h hl
    induction l with
    | nil => rfl
    | cons a l ih => rw [List.map_cons, flat_cons, ih]; rfl
  apply List.ext_getElem?
  intro i
  unfold nums
  by_cases hi : i < l.length
  · obtain ⟨u, hu, hr⟩ := h i (.int k l[i]) (by rw [hflat, List.getElem?_map, List.getElem?_eq_getElem hi]; rfl)
    rw [hu, List.getElem?_map, List.getElem?_eq_getElem hi]
    cases hr; rfl
  · rw [List.getElem?_eq_none (by omega), List.getElem?_eq_none (by simp; omega)]
theorem own_form {w : World} {B : Nat} {e : TypeId} {z n : Nat} {v : Value} {xs : List Value} (h : w.ownsRow B e z v n xs) : ∃ a c, v = .slice a n c := by
  rcases h.2 with ⟨rfl, rfl⟩ | ⟨g, cap, cur, rfl, _⟩
  · exact ⟨_, _, rfl⟩
  · exact ⟨_, _, rfl⟩
theorem owns_block {w w' : World} {B : Nat} {e : TypeId} {z n : Nat} {v : Value} {xs : List Value} (h : w.ownsRow B e z v n xs) (hs : ∀ b, v.ownBlock = some b → w'.heap[b]? = w.heap[b]?) : w'.ownsRow B e z v n xs := by
  refine ⟨h.1, ?_⟩
  rcases h.2 with ⟨h1, h2⟩ | ⟨g, cap, cur, rfl, h2, h3, h4⟩
  · exact .inl ⟨h1, h2⟩
  · exact .inr ⟨g, cap, cur, rfl, h2, by rw [hs g rfl]; exact h3, h4⟩
theorem frz_of {w : World} {b o : Nat} {cs : Array Value} {T : TypeId} (h : w.heap[b]? = some (.cells cs T (0, 0))) : w.frozen? ⟨b, o, none⟩ = false := by
  simp [World.frozen?, h]
/-- no block stands twice -/
def Apart (L : List (Option Nat)) : Prop := L.Pairwise fun a c => ∀ b, a = some b → c ≠ some b
/-- the lists of nodes, one behind the other -/
def NodesOwn (w : World) (B : Nat) : List Nd → List Value → Prop
  | [], xs => xs = []
  | n :: ns, xs => ∃ pv dv r, xs = pv :: dv :: r ∧ w.ownsRow B 3 1 pv n.ptrs.length (nums .i64 n.ptrs) ∧ w.ownsRow B 28 1 dv n.data.length (nums .u64 n.data) ∧ NodesOwn w B ns r
theorem NodesOwn.lt {w : World} {B : Nat} : ∀ {ns : List Nd} {xs : List Value}, NodesOwn w B ns xs → ∀ x ∈ xs, ∀ b, x.ownBlock = some b → B ≤ b ∧ b < w.heap.size
  | [], xs, h, x, hx, b, hb => by cases (show xs = [] from h); cases hx
  | n :: ns, xs, h, x, hx, b, hb => by
    obtain ⟨pv, dv, r, rfl, h1, h2, h3⟩ := h
    rcases List.mem_cons.1 hx with rfl | hx
    · exact h1.lt b hb
    · rcases List.mem_cons.1 hx with rfl | hx
      · exact h2.lt b hb
      · exact h3.lt x hx b hb
theorem NodesOwn.keep {w w' : World} {B : Nat} : ∀ {ns : List Nd} {xs : List Value}, NodesOwn w B ns xs → (∀ x ∈ xs, ∀ b, x.ownBlock = some b → w'.heap[b]? = w.heap[b]?) → NodesOwn w' B ns xs
  | [], xs, h, _ => h
  | n :: ns, xs, h, hs => by
    obtain ⟨pv, dv, r, rfl, h1, h2, h3⟩ := h
    exact ⟨pv, dv, r, rfl, owns_block h1 (hs pv (by simp)), owns_block h2 (hs dv (by simp)), h3.keep fun x hx => hs x (by simp [hx])⟩
theorem NodesOwn.snoc {w : World} {B : Nat} {n : Nd} {pv dv : Value} (h1 : w.ownsRow B 3 1 pv n.ptrs.length (nums .i64 n.ptrs)) (h2 : w.ownsRow B 28 1 dv n.data.length (nums .u64 n.data)) :
    ∀ {ns : List Nd} {xs : List Value}, NodesOwn w B ns xs → NodesOwn w B (ns ++ [n]) (xs ++ [pv, dv])
  | [], xs, h => by cases (show xs = [] from h); exact ⟨pv, dv, [], rfl, h1, h2, rfl⟩
  | m :: ns, xs, h => by
    obtain ⟨p, d, r, rfl, h3, h4, h5⟩ := h
    exact ⟨p, d, r ++ [pv, dv], rfl, h3, h4, NodesOwn.snoc h1 h2 h5⟩
structure OwnSt (w wr : World) (b2 b3 : Nat) (g : Gr) (k : Nat) (rv nv : Value) (xs : List Value) : Prop where
  below : Below w.heap.size w wr
  b2_ge : w.heap.size ≤ b2
  b3_ge : w.heap.size ≤ b3
  blk2 : wr.heap[b2]? = some (.cells #[.slice none 0 0, .slice none 0 0] 25 (0, 0))
  blk3 : wr.heap[b3]? = some (.cells #[nv, rv] 25 (0, 0))
  roots : wr.ownsRow w.heap.size 3 1 rv g.roots.length (nums .i64 g.roots)
  nodes : wr.ownsRow w.heap.size 32 2 nv k xs
  inner : NodesOwn wr w.heap.size (g.nodes.take k) xs
  apart : Apart (some b2 :: some b3 :: rv.ownBlock :: nv.ownBlock :: xs.map Value.ownBlock)
theorem heap_lt {w : World} {b : Nat} {o : Obj} (h : w.heap[b]? = some o) : b < w.heap.size := (Array.getElem?_eq_some_iff.1 h).1
theorem OwnSt.lt {w wr : World} {b2 b3 : Nat} {g : Gr} {k : Nat} {rv nv : Value} {xs : List Value} (h : OwnSt w wr b2 b3 g k rv nv xs) : ∀ o ∈ (some b2 :: some b3 :: rv.ownBlock :: nv.ownBlock :: xs.map Value.ownBlock), ∀ b, o = some b → b < wr.heap.size := by
  intro o ho b hb
  subst hb
  simp only [List.mem_cons, List.mem_map] at ho
  rcases ho with ho | ho | ho | ho | ⟨x, hx, ho⟩
  · cases ho; exact heap_lt h.blk2
  · cases ho; exact heap_lt h.blk3
  · exact (h.roots.lt b ho.symm).2
  · exact (h.nodes.lt b ho.symm).2
  · exact (h.inner.lt x hx b ho).2
/-- one node more -/
theorem OwnSt.next {w wr w1 w6 w7 w8 : World} {b2 b3 gg cap : Nat} {g : Gr} {k : Nat} {nd : Nd} {rv nv v21 v24 : Value} {xs : List Value} {X Y : Obj} (h : OwnSt w wr b2 b3 g k rv nv xs) (hk : g.nodes[k]? = some nd)
    (hw1 : w1.heap = (wr.alloc X).heap ∧ w1.os = wr.os ∧ w1.tape = wr.tape ∧ w1.output = wr.output)
    (h6 : w1.grownBy w6 none) (o6 : w6.ownsRow w.heap.size 3 1 v21 nd.ptrs.length (nums .i64 nd.ptrs)) (a6 : ∀ b, v21.ownBlock = some b → wr.heap.size < b)
    (h7 : w6.grownBy w7 none) (o7 : w7.ownsRow w.heap.size 28 1 v24 nd.data.length (nums .u64 nd.data)) (a7 : ∀ b, v24.ownBlock = some b → w6.heap.size ≤ b)
    (h8 : (w7.alloc Y).grownBy w8 nv.ownBlock) (o8 : w8.ownsRow w.heap.size 32 2 (.slice (some ⟨gg, 0, none⟩) (k + 1) cap) (k + 1) (xs ++ [v21, v24])) (a8 : nv.ownBlock = some gg ∨ gg = w7.heap.size + 1) :
    OwnSt w (w8.setCell ⟨b3, 0, none⟩ (.slice (some ⟨gg, 0, none⟩) (k + 1) cap)) b2 b3 g (k + 1) rv (.slice (some ⟨gg, 0, none⟩) (k + 1) cap) (xs ++ [v21, v24]) := by
  have hlt := h.lt
  have hap := h.apart
  obtain ⟨e1, e2, e3, e4⟩ := hw1
  have s1 : w1.heap.size = wr.heap.size + 1 := by rw [e1]; simp
  have s6 := h6.size
  have s7 := h7.size
  have s8 := h8.size
  have s8' : (w7.alloc Y).heap.size = w7.heap.size + 1 := by simp
  -- blocks of the list, pairwise
  simp only [Apart, List.pairwise_cons] at hap
  obtain ⟨p2, p3, pr, pn, px⟩ := hap
  have old : ∀ b, b < wr.heap.size → some b ≠ nv.ownBlock → b ≠ b3 → (w8.setCell ⟨b3, 0, none⟩ (.slice (some ⟨gg, 0, none⟩) (k + 1) cap)).heap[b]? = wr.heap[b]? := by
    intro b hb hn h3
    rw [Below.heap_setCell _ _ _ _ (by simpa using h3), h8.block b (by omega) hn, Below.heap_alloc _ _ _ (by omega), h7.block b (by omega) (by simp), h6.block b (by omega) (by simp), e1, Below.heap_alloc _ _ _ hb]
  have n3 : ∀ b, nv.ownBlock = some b → b ≠ b3 := fun b hb e => p3 nv.ownBlock (by simp) b3 rfl (by rw [hb, e])
  have n2 : some b2 ≠ nv.ownBlock := fun e => p2 nv.ownBlock (by simp) b2 rfl e.symm
  have n32 : b2 ≠ b3 := fun e => p2 (some b3) (by simp) b2 rfl (by rw [e])
  have nr : ∀ b, rv.ownBlock = some b → some b ≠ nv.ownBlock ∧ b ≠ b3 ∧ b < wr.heap.size := fun b hb => ⟨fun e => pr nv.ownBlock (by simp) b hb e.symm, fun e => p3 rv.ownBlock (by simp) b3 rfl (by rw [hb, e]), hlt _ (by simp) b hb⟩
  have nx : ∀ x ∈ xs, ∀ b, x.ownBlock = some b → some b ≠ nv.ownBlock ∧ b ≠ b3 ∧ b < wr.heap.size := fun x hx b hb => ⟨fun e => pn x.ownBlock (List.mem_map.2 ⟨x, hx, rfl⟩) b e.symm hb, fun e => p3 x.ownBlock (by simp only [List.mem_cons, List.mem_map]; exact .inr (.inr ⟨x, hx, rfl⟩)) b3 rfl (by rw [hb, e]), hlt x.ownBlock (by simp only [List.mem_cons, List.mem_map]; exact .inr (.inr (.inr (.inr ⟨x, hx, rfl⟩)))) b hb⟩
  have hnl : ∀ b, nv.ownBlock = some b → b < wr.heap.size := fun b hb => hlt _ (by simp) b hb
  have hb3 := heap_lt h.blk3
  have hgg : gg ≠ b3 := by
    rcases a8 with a8 | a8
    · exact n3 gg a8
    · omega
  have hgr : nv.ownBlock = some gg ∨ wr.heap.size < gg := by
    rcases a8 with a8 | a8
    · exact .inl a8
    · exact .inr (by omega)
  have b21 := fun b (hb : v21.ownBlock = some b) => (o6.lt b hb).2
  have b24 := fun b (hb : v24.ownBlock = some b) => (o7.lt b hb).2
  have new21 : ∀ b, v21.ownBlock = some b → (w8.setCell ⟨b3, 0, none⟩ (.slice (some ⟨gg, 0, none⟩) (k + 1) cap)).heap[b]? = w6.heap[b]? := by
    intro b hb
    have q1 := a6 b hb
    have q2 := b21 b hb
    rw [Below.heap_setCell _ _ _ _ (by simp; omega), h8.block b (by omega) (fun e => by have := hnl b e.symm; omega), Below.heap_alloc _ _ _ (by omega), h7.block b (by omega) (by simp)]
  have new24 : ∀ b, v24.ownBlock = some b → (w8.setCell ⟨b3, 0, none⟩ (.slice (some ⟨gg, 0, none⟩) (k + 1) cap)).heap[b]? = w7.heap[b]? := by
    intro b hb
    have q1 := a7 b hb
    have q2 := b24 b hb
    rw [Below.heap_setCell _ _ _ _ (by simp; omega), h8.block b (by omega) (fun e => by have := hnl b e.symm; omega), Below.heap_alloc _ _ _ (by omega)]
  refine ⟨?_, h.b2_ge, h.b3_ge, ?_, ?_, ?_, ?_, ?_, ?_⟩
  · have q1 : Below w.heap.size wr w1 := ⟨e2, e3, e4, by omega, fun b hb => by rw [e1, Below.heap_alloc _ _ _ (by have := h.below.size; omega)]⟩
    have q2 := ((h.below.trans q1).grown h6 (by have := h.below.size; omega) (by simp)).grown h7 (by have := h.below.size; omega) (by simp)
    have q3 := (q2.alloc (by have := h.below.size; omega) Y).grown h8 (by have := h.below.size; omega) (fun b hb => (h.nodes.lt b hb).1)
    exact q3.setCell h.b3_ge _
  · rw [old b2 (heap_lt h.blk2) n2 n32]; exact h.blk2
  · have q : w8.heap[b3]? = some (.cells #[nv, rv] 25 (0, 0)) := by
      rw [h8.block b3 (by omega) (fun e => n3 b3 e.symm rfl), Below.heap_alloc _ _ _ (by omega), h7.block b3 (by omega) (by simp), h6.block b3 (by omega) (by simp), e1, Below.heap_alloc _ _ _ hb3]
      exact h.blk3
    simp only [World.setCell, Array.getElem?_modify, if_true, q, Option.map_some]
    rfl
  · exact owns_block h.roots fun b hb => old b (nr b hb).2.2 (nr b hb).1 (nr b hb).2.1
  · exact owns_block o8 fun b hb => by
      cases hb
      rw [Below.heap_setCell _ _ _ _ (by simpa using hgg)]
  · rw [List.take_add_one, hk]
    exact NodesOwn.snoc (owns_block o6 new21) (owns_block o7 new24) (h.inner.keep fun x hx b hb => old b (nx x hx b hb).2.2 (nx x hx b hb).1 (nx x hx b hb).2.1)
  · simp only [Apart, List.map_append, List.map_cons, List.map_nil, List.pairwise_cons]
    have hob : (Value.slice (some ⟨gg, 0, none⟩) (k + 1) cap).ownBlock = some gg := rfl
    have key : ∀ (o : Option Nat), (∀ b, o = some b → b < wr.heap.size) → ∀ b, o = some b → v21.ownBlock ≠ some b ∧ v24.ownBlock ≠ some b := fun o ho b hb => by
      have := ho b hb
      exact ⟨fun e => by have := a6 b e; omega, fun e => by have := a7 b e; omega⟩
    have kgg : v21.ownBlock ≠ some gg ∧ v24.ownBlock ≠ some gg := by
      rcases a8 with a8 | a8
      · exact key _ hnl gg a8
      · exact ⟨fun e => by have := b21 gg e; omega, fun e => by have := b24 gg e; omega⟩
    have hnew : ∀ (o : Option Nat), (∀ b, o = some b → b < wr.heap.size) → (∀ x ∈ xs.map Value.ownBlock, ∀ b, o = some b → x ≠ some b) → ∀ x ∈ xs.map Value.ownBlock ++ [v21.ownBlock, v24.ownBlock], ∀ b, o = some b → x ≠ some b := by
      intro o ho hx x hm b hb
      rcases List.mem_append.1 hm with hm | hm
      · exact hx x hm b hb
      · have := key o ho b hb
        simp only [List.mem_cons, List.not_mem_nil, or_false] at hm
        rcases hm with rfl | rfl
        · exact this.1
        · exact this.2
    have hgo : ∀ (o : Option Nat), (∀ b, o = some b → b < wr.heap.size) → (∀ b, o = some b → nv.ownBlock ≠ some b) → ∀ b, o = some b → (some gg : Option Nat) ≠ some b := by
      intro o ho hn b hb e
      cases e
      rcases hgr with q | q
      · exact hn gg hb q
      · have := ho gg hb; omega
    rw [hob]
    refine ⟨fun x hx b hb => ?_, fun x hx b hb => ?_, fun x hx b hb => ?_, fun x hx b hb => ?_, ?_⟩
    · simp only [List.mem_cons] at hx
      rcases hx with rfl | rfl | rfl | hx
      · exact p2 _ (by simp) b hb
      · exact p2 _ (by simp) b hb
      · exact hgo (some b2) (fun b hb => hlt _ (by simp) b hb) (fun b hb => p2 _ (by simp) b hb) b hb
      · exact hnew (some b2) (fun b hb => hlt _ (by simp) b hb) (fun x hx => p2 x (by simp only [List.mem_cons]; exact .inr (.inr (.inr hx)))) x hx b hb
    · simp only [List.mem_cons] at hx
      rcases hx with rfl | rfl | hx
      · exact p3 _ (by simp) b hb
      · exact hgo (some b3) (fun b hb => hlt _ (by simp) b hb) (fun b hb => p3 _ (by simp) b hb) b hb
      · exact hnew (some b3) (fun b hb => hlt _ (by simp) b hb) (fun x hx => p3 x (by simp only [List.mem_cons]; exact .inr (.inr hx))) x hx b hb
    · simp only [List.mem_cons] at hx
      rcases hx with rfl | hx
      · exact hgo rv.ownBlock (fun b hb => hlt _ (by simp) b hb) (fun b hb => pr _ (by simp) b hb) b hb
      · exact hnew rv.ownBlock (fun b hb => hlt _ (by simp) b hb) (fun x hx => pr x (by simp only [List.mem_cons]; exact .inr hx)) x hx b hb
    · cases hb
      rcases List.mem_append.1 hx with hx | hx
      · intro e
        rcases hgr with q | q
        · exact pn x hx gg q e
        · have : gg < wr.heap.size := hlt x (by simp only [List.mem_cons]; exact .inr (.inr (.inr (.inr hx)))) gg e
          omega
      · simp only [List.mem_cons, List.not_mem_nil, or_false] at hx
        rcases hx with rfl | rfl
        · exact kgg.1
        · exact kgg.2
    · rw [List.pairwise_append]
      refine ⟨px, ?_, fun x hx y hy b hb => ?_⟩
      · simp only [List.pairwise_cons, List.mem_cons, List.not_mem_nil, or_false, List.Pairwise.nil, and_true, false_implies, implies_true]
        rintro y rfl b hb e
        have := b21 b hb
        have := a7 b e
        omega
      · have := key x (fun b hb => hlt x (by simp only [List.mem_cons]; exact .inr (.inr (.inr (.inr hx)))) b hb) b hb
        simp only [List.mem_cons, List.not_mem_nil, or_false] at hy
        rcases hy with rfl | rfl
        · exact this.1
        · exact this.2
/-- what own tells: a graph all of whose lists are new, and apart -/
structure GOwn (B : Nat) (w : World) (g : Gr) (nv rv : Value) (xs : List Value) : Prop where
  roots : w.ownsRow B 3 1 rv g.roots.length (nums .i64 g.roots)
  nodes : w.ownsRow B 32 2 nv g.nodes.length xs
  inner : NodesOwn w B g.nodes xs
  apart : Apart (rv.ownBlock :: nv.ownBlock :: xs.map Value.ownBlock)
theorem OwnSt.done {w wr w' : World} {b2 b3 k : Nat} {g : Gr} {rv nv : Value} {xs : List Value} (h : OwnSt w wr b2 b3 g k rv nv xs) (hk : k = g.nodes.length) (hs : ∀ b, b ≠ b2 → w'.heap[b]? = wr.heap[b]?) : GOwn w.heap.size w' g nv rv xs := by
  have hap := h.apart
  simp only [Apart, List.pairwise_cons] at hap
  obtain ⟨p2, p3, pr, pn, px⟩ := hap
  subst hk
  have hne : ∀ o ∈ (some b3 :: rv.ownBlock :: nv.ownBlock :: xs.map Value.ownBlock), ∀ b, o = some b → b ≠ b2 := fun o ho b hb e => p2 o ho b2 rfl (by rw [hb, e])
  refine ⟨owns_block h.roots fun b hb => hs b (hne _ (by simp) b hb), owns_block h.nodes fun b hb => hs b (hne _ (by simp) b hb), ?_, ?_⟩
  · have := h.inner
    rw [List.take_length] at this
    exact this.keep fun x hx b hb => hs b (hne x.ownBlock (by simp only [List.mem_cons, List.mem_map]; exact .inr (.inr (.inr ⟨x, hx, rfl⟩))) b hb)
  · simp only [Apart, List.pairwise_cons]
    exact ⟨pr, pn, px⟩
end Vm
