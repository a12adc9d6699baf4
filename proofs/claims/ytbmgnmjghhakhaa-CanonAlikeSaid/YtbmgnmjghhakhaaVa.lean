/-
  Values as plain trees, and what it means that a value of the model reads as one in a world.
-/
import Derived.WalkKit
import Derived.MapKept
namespace Vm
open Go

/-- A value as a tree: a slice is its elements, a struct or an array its cells, side by side; a map its keys and its values (id: which block it is, or 0). -/
inductive V where
  | int (k : IntKind) (n : Int)
  | bool (b : Bool)
  | str (s : ByteArray)
  | sl (l : List V)
  | agg (cs : List V)
  | tup (l : List V)
  | ptr (cs : List V)
  | fn (f : FuncId)
  | mp (id : Nat) (ks vs : List V)
  deriving Inhabited

def V.cells : V → List V
  | .agg cs => cs
  | x => [x]
def V.one : V → Bool
  | .agg _ | .tup _ => false
  | _ => true
/-- an element of a slice: so many cells, none of them an aggregate -/
def V.fits (k : Nat) (x : V) : Prop := x.cells.length = k ∧ ∀ c ∈ x.cells, c.one = true
def flat (l : List V) : List V := l.flatMap V.cells

theorem flat_nil : flat [] = [] := rfl
theorem flat_cons (x : V) (l : List V) : flat (x :: l) = x.cells ++ flat l := rfl
theorem flat_append (l r : List V) : flat (l ++ r) = flat l ++ flat r := by simp [flat]
theorem flat_length {k : Nat} : ∀ {l : List V}, (∀ x ∈ l, x.fits k) → (flat l).length = l.length * k
  | [], _ => by simp [flat]
  | x :: l, h => by
    rw [flat_cons, List.length_append, (h x (by simp)).1, flat_length (fun y hy => h y (by simp [hy]))]
    simp [Nat.succ_mul, Nat.add_comm]
/-- the cells of element i stand from i * k on -/
theorem flat_at {k : Nat} : ∀ {l : List V} {i : Nat} {x : V}, (∀ x ∈ l, x.fits k) → l[i]? = some x → ∀ j, j < k → (flat l)[i * k + j]? = x.cells[j]?
  | [], i, x, _, h, _, _ => by simp at h
  | y :: l, 0, x, hk, h, j, hj => by
    simp at h; subst h
    rw [flat_cons, Nat.zero_mul, Nat.zero_add, List.getElem?_append_left (by rw [(hk y (by simp)).1]; exact hj)]
  | y :: l, i + 1, x, hk, h, j, hj => by
    rw [flat_cons, List.getElem?_append_right (by rw [(hk y (by simp)).1]; rw [Nat.succ_mul]; omega), (hk y (by simp)).1,
      show (i + 1) * k + j - k = i * k + j from by rw [Nat.succ_mul]; omega]
    exact flat_at (fun z hz => hk z (by simp [hz])) (by simpa using h) j hj
theorem flat_take {k : Nat} {l : List V} (h : ∀ x ∈ l, x.fits k) (n : Nat) : flat (l.take n) = (flat l).take (n * k) := by
  by_cases hn : n ≤ l.length
  · have h1 : (flat (l.take n)).length = n * k := by
      rw [flat_length (fun x hx => h x (List.mem_of_mem_take hx)), List.length_take, Nat.min_eq_left hn]
    have h2 : flat l = flat (l.take n) ++ flat (l.drop n) := by rw [← flat_append, List.take_append_drop]
    rw [h2, ← h1, List.take_left]
  · rw [List.take_of_length_le (by omega), List.take_of_length_le]
    rw [flat_length h]; exact Nat.mul_le_mul_right _ (by omega)
theorem flat_drop {k : Nat} {l : List V} (h : ∀ x ∈ l, x.fits k) (n : Nat) : flat (l.drop n) = (flat l).drop (n * k) := by
  by_cases hn : n ≤ l.length
  · have h1 : (flat (l.take n)).length = n * k := by
      rw [flat_length (fun x hx => h x (List.mem_of_mem_take hx)), List.length_take, Nat.min_eq_left hn]
    have h2 : flat l = flat (l.take n) ++ flat (l.drop n) := by rw [← flat_append, List.take_append_drop]
    rw [h2, ← h1, List.drop_left]
  · rw [List.drop_of_length_le (by omega), List.drop_of_length_le, flat_nil]
    rw [flat_length h]; exact Nat.mul_le_mul_right _ (by omega)
theorem flat_getElem? {l : List V} {i : Nat} {c : V} (h : (flat l)[i]? = some c) : ∃ x ∈ l, c ∈ x.cells := by
  have := List.mem_of_getElem? h
  simpa [flat] using this

/-- the value v reads as x in the world w; only blocks of G are looked at -/
inductive Rd (w : World) (G : Nat → Prop) : V → Value → Prop where
  | int (k : IntKind) (n : Int) : Rd w G (.int k n) (.int k n)
  | bool (b : Bool) : Rd w G (.bool b) (.bool b)
  | str (s : ByteArray) : Rd w G (.str s) (.string s)
  | nil (a : Option Addr) (cap : Nat) : cap ≤ maxLen → Rd w G (.sl []) (.slice a 0 cap)
  | sl (l : List V) (b o cap k : Nat) (vs : Nat → Value) : l.length ≤ cap → cap ≤ maxLen → G b → (∀ x ∈ l, x.fits k) →
      (∀ i, i < l.length * k → w.cell? ⟨b, o + i, none⟩ = some (vs i)) → (∀ i c, (flat l)[i]? = some c → Rd w G c (vs i)) →
      Rd w G (.sl l) (.slice (some ⟨b, o, none⟩) l.length cap)
  | agg (cs : List V) (vs : Array Value) : vs.size = cs.length → (∀ c ∈ cs, c.one = true) → (∀ i c, cs[i]? = some c → Rd w G c (vs.getD i undef)) → Rd w G (.agg cs) (.agg vs)
  | tup (l : List V) (vs : Array Value) : vs.size = l.length → (∀ i c, l[i]? = some c → Rd w G c (vs.getD i undef)) → Rd w G (.tup l) (.tuple vs)
  | ptr (cs : List V) (b o : Nat) (vs : Nat → Value) : G b → (∀ c ∈ cs, c.one = true) → (∀ i, i < cs.length → w.cell? ⟨b, o + i, none⟩ = some (vs i)) →
      (∀ i c, cs[i]? = some c → Rd w G c (vs i)) → Rd w G (.ptr cs) (.pointer (some ⟨b, o, none⟩))
  | fn (f : FuncId) : Rd w G (.fn f) (.func (.func f) #[] #[])
  | nomp : Rd w G (.mp 0 [] []) (.map none)
  | mp (id : Nat) (ks xs : List V) (b clk : Nat) (es : Array MapEntry) : (id = 0 ∨ id = b + 1) → G b → w.heap[b]? = some (.map es clk) → ks.length = es.size → xs.length = es.size →
      (∀ i c, ks[i]? = some c → Rd w G c (es.getD i default).key) → (∀ i c, xs[i]? = some c → Rd w G c (es.getD i default).val) → Rd w G (.mp id ks xs) (.map (some b))

/-- on the blocks of G the world w' is as w -/
def Same (G : Nat → Prop) (w w' : World) : Prop := ∀ b, G b → w'.heap[b]? = w.heap[b]?
theorem Same.refl (G : Nat → Prop) (w : World) : Same G w w := fun _ _ => rfl
theorem Same.trans {G : Nat → Prop} {a b c : World} (h : Same G a b) (k : Same G b c) : Same G a c := fun x hx => (k x hx).trans (h x hx)
theorem Same.mono {G G' : Nat → Prop} {a b : World} (h : Same G a b) (hg : ∀ b, G' b → G b) : Same G' a b := fun x hx => h x (hg x hx)
theorem Same.cell {G : Nat → Prop} {w w' : World} (h : Same G w w') {b o : Nat} (hb : G b) : w'.cell? ⟨b, o, none⟩ = w.cell? ⟨b, o, none⟩ :=
  World.cell?_of_block (h b hb)

theorem Rd.keep {w w' : World} {G G' : Nat → Prop} {x : V} {v : Value} (h : Rd w G x v) (hs : Same G w w') (hg : ∀ b, G b → G' b) : Rd w' G' x v := by
  induction h with
  | int k n => exact .int k n
  | bool b => exact .bool b
  | str s => exact .str s
  | nil a cap hc => exact .nil a cap hc
  | sl l b o cap k vs h1 h2 h3 h4 h5 _ ih => exact .sl l b o cap k vs h1 h2 (hg _ h3) h4 (fun i hi => by rw [hs.cell h3]; exact h5 i hi) ih
  | agg cs vs h1 h2 _ ih => exact .agg cs vs h1 h2 ih
  | tup l vs h1 _ ih => exact .tup l vs h1 ih
  | ptr cs b o vs h1 h2 h3 _ ih => exact .ptr cs b o vs (hg _ h1) h2 (fun i hi => by rw [hs.cell h1]; exact h3 i hi) ih
  | fn f => exact .fn f
  | nomp => exact .nomp
  | mp id ks xs b clk es h0 h1 h2 h3 h4 _ _ ih1 ih2 => exact .mp id ks xs b clk es h0 (hg _ h1) (by rw [hs b h1]; exact h2) h3 h4 ih1 ih2
theorem Rd.mono {w : World} {G G' : Nat → Prop} {x : V} {v : Value} (h : Rd w G x v) (hg : ∀ b, G b → G' b) : Rd w G' x v := h.keep (.refl _ _) hg

theorem Rd.one_eq {w : World} {G : Nat → Prop} {x : V} {v : Value} (h : Rd w G x v) : v.oneCell' = x.one := by
  cases h <;> rfl
/-- a value's cells read as the tree's cells -/
theorem Rd.cells {w : World} {G : Nat → Prop} {x : V} {v : Value} (h : Rd w G x v) (ht : ∀ l, x ≠ .tup l) : v.cells.size = x.cells.length ∧ (∀ c ∈ x.cells, c.one = true) ∧ ∀ i c, x.cells[i]? = some c → Rd w G c (v.cells.getD i undef) := by
  have aux : ∀ {x : V} {v : Value}, Rd w G x v → x.one = true → v.cells = #[v] → x.cells = [x] → v.cells.size = x.cells.length ∧ (∀ c ∈ x.cells, c.one = true) ∧ ∀ i c, x.cells[i]? = some c → Rd w G c (v.cells.getD i undef) := by
    intro x v h h1 hv hx
    rw [hv, hx]
    refine ⟨rfl, by simpa using h1, fun i c hi => ?_⟩
    cases i with
    | zero => simp at hi; subst hi; simpa using h
    | succ i => simp at hi
  cases h with
  | agg cs vs h1 h2 h3 => exact ⟨h1, h2, h3⟩
  | tup l vs _ _ => exact absurd rfl (ht l)
  | int k n => exact aux (.int k n) rfl rfl rfl
  | bool b => exact aux (.bool b) rfl rfl rfl
  | str s => exact aux (.str s) rfl rfl rfl
  | nil a cap hc => exact aux (.nil a cap hc) rfl rfl rfl
  | sl l b o cap k vs h1 h2 h3 h4 h5 h6 => exact aux (.sl l b o cap k vs h1 h2 h3 h4 h5 h6) rfl rfl rfl
  | ptr cs b o vs h1 h2 h3 h4 => exact aux (.ptr cs b o vs h1 h2 h3 h4) rfl rfl rfl
  | fn f => exact aux (.fn f) rfl rfl rfl
  | nomp => exact aux .nomp rfl rfl rfl
  | mp id ks xs b clk es h0 h1 h2 h3 h4 h5 h6 => exact aux (.mp id ks xs b clk es h0 h1 h2 h3 h4 h5 h6) rfl rfl rfl
end Vm
