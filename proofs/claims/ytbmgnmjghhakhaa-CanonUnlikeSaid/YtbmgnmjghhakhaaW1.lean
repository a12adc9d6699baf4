/-
  Graphs; which ones may be: what layer 8's Right tells.
-/
import Derived.Test.YtbmgnmjghhakhaaWa
import Derived.Test.YtbmgnmjghhakhaaGa
namespace Vm
open Go Go.Proofs
set_option maxRecDepth 100000
set_option linter.unusedSimpArgs false
set_option linter.unusedVariables false

structure Nd where
  ptrs : List Int
  data : List Int
  deriving DecidableEq, Inhabited
structure Gr where
  nodes : List Nd
  roots : List Int
  deriving DecidableEq, Inhabited
def ndV (n : Nd) : V := .agg [.sl (n.ptrs.map vi), .sl (n.data.map vu)]
def grV (g : Gr) : V := .agg [.sl (g.nodes.map ndV), .sl (g.roots.map vi)]
@[simp] theorem ndV_cells (n : Nd) : (ndV n).cells = [.sl (n.ptrs.map vi), .sl (n.data.map vu)] := rfl
@[simp] theorem sizeOk_ndV (l : List Nd) : sizeOk 2 (l.map ndV) = true := sizeOk_map fun _ => rfl
@[simp] theorem fldsV_ndV (n : Nd) : fldsV (ndV n) 0 2 = some (ndV n) := rfl
@[simp] theorem fldV_ndV0 (n : Nd) : fldV (ndV n) 0 = some (.sl (n.ptrs.map vi)) := rfl
@[simp] theorem fldV_ndV1 (n : Nd) : fldV (ndV n) 1 = some (.sl (n.data.map vu)) := rfl
@[simp] theorem szV_ndV (n : Nd) : szV (ndV n) 2 = some (ndV n) := rfl
@[simp] theorem fldsV_grV (g : Gr) : fldsV (grV g) 0 2 = some (grV g) := rfl
@[simp] theorem fldV_grV0 (g : Gr) : fldV (grV g) 0 = some (.sl (g.nodes.map ndV)) := rfl
@[simp] theorem fldV_grV1 (g : Gr) : fldV (grV g) 1 = some (.sl (g.roots.map vi)) := rfl
@[simp] theorem szV_grV (g : Gr) : szV (grV g) 2 = some (grV g) := rfl
@[simp] theorem grV_cells (g : Gr) : (grV g).cells = [.sl (g.nodes.map ndV), .sl (g.roots.map vi)] := rfl
/-- no list of it is long -/
def Gr.sm (g : Gr) : Prop := g.nodes.length ≤ 100000 ∧ g.roots.length ≤ 100000 ∧ ∀ n ∈ g.nodes, n.ptrs.length ≤ 100000 ∧ n.data.length ≤ 100000
def inR (n : Nat) (p : Int) : Bool := decide (-1 ≤ p ∧ p < n)
def nodeOk (k : Nat) (n : Nd) : Bool := decide (n.ptrs.length + n.data.length ≤ 255) && n.ptrs.all (inR k)
def right (g : Gr) : Bool := decide (g.roots.length ≤ 16) && g.nodes.all (nodeOk g.nodes.length) && g.roots.all (inR g.nodes.length)

theorem all_take_succ {α : Type} {p : α → Bool} {l : List α} {i : Nat} {x : α} (h : l[i]? = some x) : (l.take (i + 1)).all p = ((l.take i).all p && p x) := by
  rw [List.take_add_one, h, List.all_append]
  simp
theorem all_false_at {α : Type} {p : α → Bool} {l : List α} {i : Nat} {x : α} (h : l[i]? = some x) (hp : p x = false) : l.all p = false := by
  rw [List.all_eq_false]
  exact ⟨x, List.mem_of_getElem? h, by simp [hp]⟩

theorem fine_vcm {l : List Int} {ns : List V} {rs : V} (hl : l.length ≤ 100000) (hr : rs.one = true) (ho : oneV rs = some rs) :
    VCM Try.prog 52 [.fz, .mem [.fz, .fz]] [.sl (l.map vi), .agg [.sl ns, rs]] (.tup [.bool (l.all (inR ns.length)), .agg [.sl ns, rs]]) := by
  refine vcm_of_wp Try.func52 follows (by kernel_rfl) c52 (by kernel_rfl) ?_
  simp [-List.all_eq_true, -List.all_eq_false, p52]
  refine wpS_loop (fun t => ∃ i : Nat, i ≤ l.length ∧ (l.take i).all (inR ns.length) = true ∧ t = [.v (.sl (l.map vi)), .m [.sl ns, rs], .v (.bool false), .v (vi i), .v (vi l.length), .no, .no, .v (.sl (l.map vi))]) (fun t => match get t 3 with | .v (.int _ n) => l.length - n.toNat | _ => 0) ?_ ?_
  · exact ⟨0, by simp, by simp, by simp⟩
  · rintro t ⟨i, hi, hall, rfl⟩
    by_cases h : i < l.length
    · have hx : l[i]? = some l[i] := List.getElem?_eq_getElem h
      simp [-List.all_eq_true, -List.all_eq_false, h]
      simp (disch := omega) only [wrap_i]
      split
      · exact all_false_at hx (by simp [inR]; omega)
      · split
        · exact all_false_at hx (by simp [inR]; omega)
        · refine ⟨⟨i + 1, by omega, ?_, by simp⟩, by omega⟩
          rw [all_take_succ hx, hall]
          simp [inR]; omega
    · have : i = l.length := by omega
      subst this
      simp [-List.all_eq_true, -List.all_eq_false]
      simpa using hall
theorem right_vc {g : Gr} (hg : g.sm) : VC Try.prog 28 false [grV g] (.bool (right g)) := by
  obtain ⟨hg1, hg2, hg3⟩ := hg
  refine vc_of_wp Try.func28 follows (by kernel_rfl) c28 rfl ?_
  simp [-List.all_eq_true, -List.all_eq_false, p28]
  split
  · rename_i h; simp [-List.all_eq_true, -List.all_eq_false, right, show ¬ g.roots.length ≤ 16 by omega]
  · rename_i h
    refine wpS_loop (fun t => ∃ i : Nat, i ≤ g.nodes.length ∧ (g.nodes.take i).all (nodeOk g.nodes.length) = true ∧ t = [.v (grV g), .m [.sl (g.nodes.map ndV), .sl (g.roots.map vi)], .v (.bool false), .v (.bool false), .no, .v (vi i), .v (vi g.nodes.length), .no, .no, .v (.sl (g.nodes.map ndV))]) (fun t => match get t 5 with | .v (.int _ n) => g.nodes.length - n.toNat | _ => 0) ?_ ?_
    · exact ⟨0, by simp, by simp, by simp [h]⟩
    · rintro t ⟨i, hi, hall, rfl⟩
      by_cases hlt : i < g.nodes.length
      · have hx : g.nodes[i]? = some g.nodes[i] := List.getElem?_eq_getElem hlt
        obtain ⟨h1, h2⟩ := hg3 _ (List.getElem_mem hlt)
        have hw := wrap_i ((i : Int) + 1) (by omega) (by omega)
        simp [-List.all_eq_true, -List.all_eq_false, hlt, hw]
        simp (disch := omega) only [wrap_i]
        have hno : nodeOk g.nodes.length g.nodes[i] = false → right g = false := fun h0 => by simp [-List.all_eq_true, -List.all_eq_false, right, all_false_at hx h0]
        by_cases h3 : (g.nodes[i].ptrs.length : Int) + (g.nodes[i].data.length : Int) ≤ 255
        · rw [if_pos h3]
          refine callWM_of (fine_vcm h1 (by rfl) (by rfl)) ?_
          have h3' : ¬ (255 : Int) < (g.nodes[i].ptrs.length : Int) + (g.nodes[i].data.length : Int) := by omega
          cases h4 : g.nodes[i].ptrs.all (inR g.nodes.length)
          · simp [-List.all_eq_true, -List.all_eq_false, h3', h4]
            exact hno (by simp [-List.all_eq_true, -List.all_eq_false, nodeOk, h4])
          · simp [-List.all_eq_true, -List.all_eq_false, h3', h4, hw]
            refine ⟨⟨i + 1, by omega, ?_, by simp⟩, by omega⟩
            rw [all_take_succ hx, hall]
            simp [-List.all_eq_true, -List.all_eq_false, nodeOk, h4]
            omega
        · rw [if_neg h3]
          exact hno (by simp [-List.all_eq_true, -List.all_eq_false, nodeOk]; intro; omega)
      · have : i = g.nodes.length := by omega
        subst this
        simp [-List.all_eq_true, -List.all_eq_false]
        refine callWM_of (fine_vcm hg2 (by rfl) (by rfl)) ?_
        rw [List.take_length] at hall
        simp [-List.all_eq_true, -List.all_eq_false, right, hall]
        omega
end Vm
/-
  Lists and nodes that are the same: slices.Equal, slices.EqualFunc, the references' own.
-/
namespace Vm
open Go Go.Proofs
set_option maxRecDepth 100000
set_option linter.unusedSimpArgs false
set_option linter.unusedVariables false

theorem take_succ_eq {α : Type} {a b : List α} {i : Nat} (h : a.take i = b.take i) (hx : a[i]? = b[i]?) : a.take (i + 1) = b.take (i + 1) := by
  rw [List.take_add_one, List.take_add_one, h, hx]
theorem ne_at {α : Type} {a b : List α} {i : Nat} (h : a[i]? ≠ b[i]?) : a ≠ b := fun e => h (by rw [e])

theorem equalI_vc {a b : List Int} (ha : a.length ≤ 100000) : VC Try.prog 47 false [.sl (a.map vi), .sl (b.map vi)] (.bool (decide (a = b))) := by
  refine vc_of_wp Try.func47 follows (by kernel_rfl) c47 rfl ?_
  by_cases hl : a.length = b.length
  · simp [p47, hl]
    refine wpS_loop (fun t => ∃ i : Nat, i ≤ b.length ∧ a.take i = b.take i ∧ t = [.v (.sl (a.map vi)), .v (.sl (b.map vi)), .v (.bool false), .v (.bool false), .v (vi i), .v (vi b.length)]) (fun t => match get t 4 with | .v (.int _ n) => b.length - n.toNat | _ => 0) ?_ ?_
    · exact ⟨0, by simp, by simp, by simp⟩
    · rintro t ⟨i, hi, heq, rfl⟩
      by_cases h : i < b.length
      · have h' : i < a.length := by omega
        by_cases hx : a[i] = b[i]
        · simp [h, h', hx]
          simp (disch := omega) only [wrap_i]
          exact ⟨⟨i + 1, by omega, take_succ_eq heq (by simp [h, h', hx]), by simp⟩, by omega⟩
        · simp [h, h', hx]
          exact ne_at (i := i) (by simp [h, h', hx])
      · have : i = b.length := by omega
        subst this
        rw [List.take_length, List.take_of_length_le (by omega)] at heq
        simp [heq]
  · simp [p47, show ¬ ((a.length : Int) = (b.length : Int)) by omega]
    intro e; subst e; exact hl rfl
theorem equalU_vc {a b : List Int} (ha : a.length ≤ 100000) : VC Try.prog 50 false [.sl (a.map vu), .sl (b.map vu)] (.bool (decide (a = b))) := by
  refine vc_of_wp Try.func50 follows (by kernel_rfl) c50 rfl ?_
  by_cases hl : a.length = b.length
  · simp [p50, hl]
    refine wpS_loop (fun t => ∃ i : Nat, i ≤ b.length ∧ a.take i = b.take i ∧ t = [.v (.sl (a.map vu)), .v (.sl (b.map vu)), .v (.bool false), .v (.bool false), .v (vi i), .v (vi b.length)]) (fun t => match get t 4 with | .v (.int _ n) => b.length - n.toNat | _ => 0) ?_ ?_
    · exact ⟨0, by simp, by simp, by simp⟩
    · rintro t ⟨i, hi, heq, rfl⟩
      by_cases h : i < b.length
      · have h' : i < a.length := by omega
        by_cases hx : a[i] = b[i]
        · simp [h, h', hx]
          simp (disch := omega) only [wrap_i]
          exact ⟨⟨i + 1, by omega, take_succ_eq heq (by simp [h, h', hx]), by simp⟩, by omega⟩
        · simp [h, h', hx]
          exact ne_at (i := i) (by simp [h, h', hx])
      · have : i = b.length := by omega
        subst this
        rw [List.take_length, List.take_of_length_le (by omega)] at heq
        simp [heq]
  · simp [p50, show ¬ ((a.length : Int) = (b.length : Int)) by omega]
    intro e; subst e; exact hl rfl
theorem ints_vc {a b : List Int} (ha : a.length ≤ 100000) : VC Try.prog 22 false [.sl (a.map vi), .sl (b.map vi)] (.bool (decide (a = b))) := by
  refine vc_of_wp Try.func22 follows (by kernel_rfl) c22 rfl ?_
  by_cases hl : a.length = b.length
  · simp [p22, hl]
    refine wpS_loop (fun t => ∃ i : Nat, i ≤ b.length ∧ a.take i = b.take i ∧ t = [.v (.sl (a.map vi)), .v (.sl (b.map vi)), .v (.bool false), .v (.bool false), .v (vi i)]) (fun t => match get t 4 with | .v (.int _ n) => b.length - n.toNat | _ => 0) ?_ ?_
    · exact ⟨0, by simp, by simp, by simp⟩
    · rintro t ⟨i, hi, heq, rfl⟩
      by_cases h : i < b.length
      · have h' : i < a.length := by omega
        by_cases hx : a[i] = b[i]
        · simp [h, h', hx]
          simp (disch := omega) only [wrap_i]
          exact ⟨⟨i + 1, by omega, take_succ_eq heq (by simp [h, h', hx]), by simp⟩, by omega⟩
        · simp [h, h', hx]
          exact ne_at (i := i) (by simp [h, h', hx])
      · have : i = b.length := by omega
        subst this
        rw [List.take_length, List.take_of_length_le (by omega)] at heq
        simp [heq]
  · simp [p22, show ¬ ((a.length : Int) = (b.length : Int)) by omega]
    intro e; subst e; exact hl rfl
theorem nums_vc {a b : List Int} (ha : a.length ≤ 100000) : VC Try.prog 46 false [.sl (a.map vu), .sl (b.map vu)] (.bool (decide (a = b))) := by
  refine vc_of_wp Try.func46 follows (by kernel_rfl) c46 rfl ?_
  by_cases hl : a.length = b.length
  · simp [p46, hl]
    refine wpS_loop (fun t => ∃ i : Nat, i ≤ b.length ∧ a.take i = b.take i ∧ t = [.v (.sl (a.map vu)), .v (.sl (b.map vu)), .v (.bool false), .v (.bool false), .v (vi i)]) (fun t => match get t 4 with | .v (.int _ n) => b.length - n.toNat | _ => 0) ?_ ?_
    · exact ⟨0, by simp, by simp, by simp⟩
    · rintro t ⟨i, hi, heq, rfl⟩
      by_cases h : i < b.length
      · have h' : i < a.length := by omega
        by_cases hx : a[i] = b[i]
        · simp [h, h', hx]
          simp (disch := omega) only [wrap_i]
          exact ⟨⟨i + 1, by omega, take_succ_eq heq (by simp [h, h', hx]), by simp⟩, by omega⟩
        · simp [h, h', hx]
          exact ne_at (i := i) (by simp [h, h', hx])
      · have : i = b.length := by omega
        subst this
        rw [List.take_length, List.take_of_length_le (by omega)] at heq
        simp [heq]
  · simp [p46, show ¬ ((a.length : Int) = (b.length : Int)) by omega]
    intro e; subst e; exact hl rfl
/-- nodes are the same: the function that Alike hands on -/
theorem sameNd_vc {m n : Nd} (h1 : m.ptrs.length ≤ 100000) (h2 : m.data.length ≤ 100000) : VC Try.prog 49 false [ndV m, ndV n] (.bool (decide (m = n))) := by
  refine vc_of_wp Try.func49 follows (by kernel_rfl) c49 rfl ?_
  simp [p49]
  refine callW_of (equalI_vc h1) (by simp) ?_
  by_cases hp : m.ptrs = n.ptrs
  · simp [hp]
    refine callW_of (equalU_vc h2) (by simp) ?_
    simp
    cases m; cases n
    simp at hp
    simp [hp]
  · simp [hp]
    intro e
    exact hp (by rw [e])
theorem equalFunc_vc {a b : List Nd} (ha : a.length ≤ 100000) (hs : ∀ n ∈ a, n.ptrs.length ≤ 100000 ∧ n.data.length ≤ 100000) : VC Try.prog 48 false [.sl (a.map ndV), .sl (b.map ndV), .fn 49] (.bool (decide (a = b))) := by
  refine vc_of_wp Try.func48 follows (by kernel_rfl) c48 rfl ?_
  by_cases hl : a.length = b.length
  · simp [p48, hl]
    refine wpS_loop (fun t => ∃ i : Nat, i ≤ b.length ∧ a.take i = b.take i ∧ t = [.v (.sl (a.map ndV)), .v (.sl (b.map ndV)), .v (.fn 49), .v (.bool false), .v (.bool false), .v (vi i), .v (vi b.length), .no, .no, .no, .v (.sl (a.map ndV))]) (fun t => match get t 5 with | .v (.int _ n) => b.length - n.toNat | _ => 0) ?_ ?_
    · exact ⟨0, by simp, by simp, by simp⟩
    · rintro t ⟨i, hi, heq, rfl⟩
      by_cases h : i < b.length
      · have h' : i < a.length := by omega
        obtain ⟨s1, s2⟩ := hs _ (List.getElem_mem h')
        simp [h, h']
        refine callWM_of (vcm_of_vc (sameNd_vc (m := a[i]) (n := b[i]) s1 s2)) ?_
        by_cases hx : a[i] = b[i]
        · simp [hx]
          simp (disch := omega) only [wrap_i]
          exact ⟨⟨i + 1, by omega, take_succ_eq heq (by simp [h, h', hx]), by simp⟩, by omega⟩
        · simp [hx]
          exact ne_at (i := i) (by simp [h, h', hx])
      · have : i = b.length := by omega
        subst this
        rw [List.take_length, List.take_of_length_le (by omega)] at heq
        simp [heq]
  · simp [p48, show ¬ ((a.length : Int) = (b.length : Int)) by omega]
    intro e; subst e; exact hl rfl
end Vm
/-
  The order of live nodes: canon.order and its closure.
-/
namespace Vm
open Go Go.Proofs
set_option maxRecDepth 100000
set_option linter.unusedSimpArgs false
set_option linter.unusedVariables false
/-- numbers 0, 1, .. as a map's values -/
def upto (n : Nat) : List V := (List.range n).map fun (i : Nat) => vi i
/-- where a node stands in an order, in a map -/
def atM (id : Nat) (l : List Int) : V := .mp id (l.map vi) (upto l.length)
def noteL : List Int → List Int → List Int
  | acc, [] => acc
  | acc, x :: l => noteL (if 0 ≤ x ∧ x ∉ acc then acc ++ [x] else acc) l
theorem findV_vi {x : Int} : ∀ {l : List Int}, findV (vi x) (l.map vi) = some (l.findIdx? (· == x))
  | [] => rfl
  | y :: l => by
    simp only [List.map_cons, findV, keyEq, if_true, List.findIdx?_cons]
    by_cases h : x = y
    · subst h; simp
    · have h2 : (x == y) = false := by simpa using h
      have h3 : (y == x) = false := by simpa using Ne.symm h
      simp [h2, h3, findV_vi]
theorem findIdx_none {x : Int} {l : List Int} : l.findIdx? (· == x) = none ↔ x ∉ l := by
  rw [List.findIdx?_eq_none_iff]
  constructor
  · intro h hm; have := h x hm; simp at this
  · intro h y hy; simp; intro e; subst e; exact h hy
theorem lkV_at {id : Nat} {l : List Int} {x : Int} {z : V} {ok : Bool} : lkV (.i .i64) (atM id l) (vi x) z ok = match l.findIdx? (· == x) with
    | some i => some (if ok then .tup [vi i, .bool true] else vi i)
    | none => some (if ok then .tup [z, .bool false] else z) := by
  unfold lkV atM
  simp only [isK, decide_true, Bool.true_eq_false, if_false, findV_vi]
  cases h : l.findIdx? (· == x) with
  | none => rfl
  | some i =>
    have hlt : i < l.length := by
      have := List.findIdx?_eq_some_iff_getElem.1 h
      exact this.1
    simp [upto, hlt]
theorem mputV_at {id : Nat} {l : List Int} {x : Int} (hx : x ∉ l) : mputV (.i .i64) (atM id l) (vi x) (vi l.length) = some (atM id (l ++ [x])) := by
  unfold mputV atM
  simp only [isK, decide_true, Bool.true_eq_false, if_false, findV_vi, findIdx_none.2 hx]
  simp [upto, List.range_succ]
@[simp] theorem oneV_at (id : Nat) (l : List Int) : oneV (atM id l) = some (atM id l) := rfl

theorem note_vcm {ns acc : List Int} {id : Nat} (hns : ns.length ≤ 100000) (hacc : acc.length ≤ 1000000) : VCM Try.prog 60 [.fz, .mem [.own 72], .mem [.own 3]] [.sl (ns.map vi), .agg [atM id acc], .agg [.sl (acc.map vi)]]
   (.tup [.tup [], .agg [atM id (noteL acc ns)], .agg [.sl ((noteL acc ns).map vi)]]) := by
  refine vcm_of_wp Try.func60 follows (by kernel_rfl) c60 (by kernel_rfl) ?_
  simp [p60]
  refine wpS_loop (fun t => ∃ i l, i ≤ ns.length ∧ noteL l (ns.drop i) = noteL acc ns ∧ l.length ≤ 1000000 + i ∧ t = [.v (.sl (ns.map vi)), .m [atM id l], .m [.sl (l.map vi)], .v (vi (i : Nat)), .v (vi ns.length), .no, .no, .v (.sl (ns.map vi))]) (fun t => match get t 3 with | .v (.int _ n) => ns.length - n.toNat | _ => 0) ?_ ?_
  · exact ⟨0, acc, by simp, by simp, by omega, by simp⟩
  · rintro t ⟨i, l, hi, hn, hl, rfl⟩
    by_cases h : i < ns.length
    · have hd : ns.drop i = ns[i] :: ns.drop (i + 1) := (List.drop_eq_getElem_cons h)
      rw [hd, noteL] at hn
      simp [h, lkV_at]
      by_cases hm : ns[i] ∈ l
      · have hsome : ∃ j, l.findIdx? (· == ns[i]) = some j := by
          cases hj : l.findIdx? (· == ns[i]) with
          | none => exact absurd hm (findIdx_none.1 hj)
          | some j => exact ⟨j, rfl⟩
        obtain ⟨j, hj⟩ := hsome
        simp [hj, flV, V.flatc]
        simp (disch := omega) only [wrap_i]
        rw [if_neg (by simp [hm])] at hn
        exact ⟨⟨i + 1, by omega, l, hn, by omega, rfl, rfl, by simp⟩, by omega⟩
      · simp [findIdx_none.2 hm, flV, V.flatc]
        simp (disch := omega) only [wrap_i]
        by_cases h0 : 0 ≤ ns[i]
        · rw [if_pos h0, mputV_at hm]
          rw [if_pos ⟨h0, hm⟩] at hn
          simp
          refine ⟨by simp [lim]; omega, ⟨i + 1, by omega, l ++ [ns[i]], hn, by simp; omega, rfl, by simp, by simp⟩, by omega⟩
        · rw [if_neg h0]
          rw [if_neg (by simp [h0])] at hn
          exact ⟨⟨i + 1, by omega, l, hn, by omega, rfl, rfl, by simp⟩, by omega⟩
    · have : i = ns.length := by omega
      subst this
      simp [noteL] at hn
      subst hn
      simp

@[simp] theorem cells_at (id : Nat) (l : List Int) : (atM id l).cells = [atM id l] := rfl
/-- nodes of a graph, each once -/
def Good (n : Nat) (l : List Int) : Prop := l.Nodup ∧ ∀ x ∈ l, 0 ≤ x ∧ x < n
theorem nodup_le : ∀ (n : Nat) {l : List Int}, l.Nodup → (∀ x ∈ l, 0 ≤ x ∧ x < n) → l.length ≤ n
  | 0, l, _, h => by
    cases l with
    | nil => simp
    | cons x l => have := h x (by simp); omega
  | n + 1, l, hn, h => by
    by_cases hm : (n : Int) ∈ l
    · have h1 := nodup_le n (hn.erase (n : Int)) fun x hx => by
        have hx' := (hn.mem_erase_iff).1 hx
        have := h x hx'.2
        omega
      rw [List.length_erase_of_mem hm] at h1
      omega
    · have := nodup_le n hn fun x hx => by
        have h1 := h x hx
        have : x ≠ n := fun e => hm (e ▸ hx)
        omega
      omega
theorem Good.len {n : Nat} {l : List Int} (h : Good n l) : l.length ≤ n := nodup_le n h.1 h.2
theorem noteL_good {n : Nat} : ∀ {ns acc : List Int}, Good n acc → (∀ x ∈ ns, x < n) → Good n (noteL acc ns)
  | [], acc, h, _ => h
  | x :: ns, acc, h, hx => by
    simp only [noteL]
    refine noteL_good ?_ fun y hy => hx y (by simp [hy])
    split
    · rename_i hc
      refine ⟨?_, fun y hy => ?_⟩
      · rw [List.nodup_append]
        exact ⟨h.1, by simp, fun a ha b hb => by simp at hb; subst hb; exact fun e => hc.2 (e ▸ ha)⟩
      · rcases List.mem_append.1 hy with hy | hy
        · exact h.2 y hy
        · simp at hy; subst hy; exact ⟨hc.1, hx _ (by simp)⟩
    · exact h
/-- the order's loop: at place i of l -/
def orderL (g : Gr) : Nat → Nat → List Int → List Int
  | 0, _, l => l
  | f + 1, i, l => match l[i]? with
    | some x => orderL g f (i + 1) (noteL l ((g.nodes[x.toNat]?).getD default).ptrs)
    | none => l
def order (g : Gr) : List Int := orderL g (g.nodes.length + 1) 0 (noteL [] g.roots)
theorem inR_lt {n : Nat} {p : Int} (h : inR n p = true) : -1 ≤ p ∧ p < n := by simpa [inR] using h
theorem right_roots {g : Gr} (hr : right g = true) : ∀ x ∈ g.roots, -1 ≤ x ∧ x < g.nodes.length := by
  simp only [right, Bool.and_eq_true, List.all_eq_true] at hr
  exact fun x hx => inR_lt (hr.2 x hx)
theorem right_ptrs {g : Gr} (hr : right g = true) : ∀ n ∈ g.nodes, ∀ x ∈ n.ptrs, -1 ≤ x ∧ x < g.nodes.length := by
  simp only [right, Bool.and_eq_true, List.all_eq_true, nodeOk] at hr
  exact fun n hn x hx => inR_lt ((hr.1.2 n hn).2 x hx)

theorem order_wp {g : Gr} (hg : g.sm) (hr : right g = true) (id : Nat) (ks vs : List V) :
    wpS Try.prog p44.body [.v (grV g), .v (.mp id ks vs)] (fun s => get s 4 = .v (.sl ((order g).map vi)) ∧ get s 3 = .m [atM id (order g)]) (fun _ _ => False) (fun s => get s 4 = .v (.sl ((order g).map vi)) ∧ get s 3 = .m [atM id (order g)]) := by
  obtain ⟨hg1, hg2, hg3⟩ := hg
  simp [p44]
  refine callWM_of (note_vcm (ns := g.roots) (acc := []) (id := id) hg2 (by simp)) ?_
  simp
  have hroots := right_roots hr
  have hgood : Good g.nodes.length (noteL [] g.roots) := noteL_good ⟨by simp, by simp⟩ fun x hx => (hroots x hx).2
  refine wpS_loop (fun t => ∃ i l, i ≤ l.length ∧ Good g.nodes.length l ∧ orderL g (g.nodes.length + 1 - i) i l = order g ∧ t = [.v (grV g), .no, .m [.sl (g.nodes.map ndV), .sl (g.roots.map vi)], .m [atM id l], .v (.sl []), .m [.sl (l.map vi)], .no, .v (vi (i : Nat))]) (fun t => match get t 7 with | .v (.int _ n) => g.nodes.length - n.toNat | _ => 0) ?_ ?_
  · exact ⟨0, _, by simp, hgood, rfl, by simp⟩
  · rintro t ⟨i, l, hi, hl, ho, rfl⟩
    have hlen := hl.len
    by_cases h : i < l.length
    · obtain ⟨x0, x1⟩ := hl.2 _ (List.getElem_mem h)
      obtain ⟨k, hk⟩ := Int.eq_ofNat_of_zero_le x0
      have hkl : k < g.nodes.length := by omega
      have hx : l[i]? = some (k : Int) := by rw [List.getElem?_eq_getElem h, hk]
      simp [h, hk, hkl]
      refine callWM_of (note_vcm (hg3 _ (List.getElem_mem hkl)).1 (by omega)) ?_
      simp
      simp (disch := omega) only [wrap_i]
      have hgood' : Good g.nodes.length (noteL l g.nodes[k].ptrs) := noteL_good hl fun x hx => (right_ptrs hr _ (List.getElem_mem hkl) x hx).2
      refine ⟨⟨i + 1, _, ?_, hgood', ?_, rfl, rfl, by simp⟩, by omega⟩
      · have : ∀ {ns acc : List Int}, acc.length ≤ (noteL acc ns).length := by
          intro ns
          induction ns with
          | nil => intro acc; simp [noteL]
          | cons y ns ih =>
            intro acc
            simp only [noteL]
            refine Nat.le_trans ?_ ih
            split <;> simp
        exact Nat.le_trans h this
      · rw [show g.nodes.length + 1 - i = (g.nodes.length + 1 - (i + 1)) + 1 by omega, orderL, hx] at ho
        simpa [hkl] using ho
    · have : i = l.length := by omega
      subst this
      have hol : l = order g := by
        rw [← ho]
        cases hf : g.nodes.length + 1 - l.length with
        | zero => omega
        | succ f => simp [orderL]
      subst hol
      simp

theorem order_vcm {g : Gr} (hg : g.sm) (hr : right g = true) (id : Nat) (ks vs : List V) : VCM Try.prog 44 [.fz, .own 72] [grV g, .mp id ks vs] (.tup [.sl ((order g).map vi), atM id (order g)]) := by
  refine ⟨by kernel_rfl, fun B w h us hok hA => ?_⟩
  obtain ⟨hA1, hA2, hA3⟩ := hA
  obtain ⟨tk1, ht1, hr1⟩ := hA3 1 (.own 72) (.mp id ks vs) rfl rfl
  simp only [argK, Option.some.injEq] at ht1
  subst ht1
  obtain ⟨x1, hx1, hown⟩ := hr1
  simp only [eval, Option.some.injEq] at hx1
  subst hx1
  rcases hown with ⟨_, _, hl, _⟩ | ⟨id', ks', vs', b, es, clk, he, hv, hbl, hB, hid, hh, h1, h2, h3, h4⟩
  · cases hl
  cases he
  have hA' : RelA Try.prog B w h [.fz, .own 72] [grV g, .mp (b + 1) ks vs] us := by
    refine ⟨rfl, hA2, fun i k x hk hx => ?_⟩
    match i, hk, hx with
    | 0, hk, hx => exact hA3 0 k x hk hx
    | 1, hk, hx =>
      simp at hk hx
      subst hk hx
      exact ⟨_, rfl, _, rfl, .inr ⟨b + 1, ks, vs, b, es, clk, rfl, hv, hbl, hB, .inr rfl, hh, h1, h2, h3, h4⟩⟩
    | i + 2, hk, hx => simp at hk
  refine fn_run (cf := p44) (fin := [(3, .mem [.own 72])]) (xs := [grV g, .mp (b + 1) ks vs]) (Rt := fun s => get s 4 = .v (.sl ((order g).map vi)) ∧ get s 3 = .m [atM (b + 1) (order g)]) Try.func44 follows c44 (order_wp hg hr (b + 1) ks vs) hok hA' fun c s S a w' h' hP hix hix2 hres hRt hrel hnil hK hfrm hfin => ?_
  rw [← hP] at hfin hres ⊢
  simp only [okFin, Bool.and_eq_true, List.all_eq_true] at hfin
  obtain ⟨hfin1, hle⟩ := hfin
  obtain ⟨hrel2, hnil2⟩ := RelS_weak hrel hnil hle
  have hix3 : c.ix 3 = 3 := hix2 3 (by decide)
  have hr : resV s (resOf c.P c.ix Try.f44) = some (.sl ((order g).map vi)) := by
    rw [← hres]
    simp [p44, hRt.1]
  obtain ⟨v, hv', hvr⟩ := results_wp (D := (h'.drop (keepP S [(3, .mem [.own 72])])).F) hrel hnil (fun b hb => .inl hb) (fun q hq => by
    have h1 := hfin1 q hq
    have h2 := List.all_eq_true.1 (show resApart Try.f44 [(3, .mem [.own 72])] = true by kernel_rfl) q hq
    refine ⟨h1, fun i b hb => .inr ⟨resSlot q, i + 1, ?_, by omega, hb⟩⟩
    unfold keepP
    rw [Option.isNone_iff_eq_none.1 h2]
    cases S.at (resSlot q) with
    | none => rfl
    | some k => cases k <;> rfl) hr
  obtain ⟨u, hu, b3, us3, T3, e1, e2, e3, e4, e5⟩ := hrel2.at_ 3 (by rw [entry_at]; exact holds_ix0 s c) (by rw [entry_at]; rfl)
  obtain ⟨X, hX, hown2⟩ := e5 0 (.own 72, .m (c.ix 3) 0) rfl
  have hXe : X = atM (b + 1) (order g) := by
    simp only [eval, hix3, hRt.2] at hX
    simpa using hX.symm
  subst hXe
  rcases hown2 with ⟨_, _, hl, _⟩ | ⟨id2, ks2, vs2, b2, es2, clk2, he2, hv2, hbl2, hB2, hid2, hh2, q1, q2, q3, q4⟩
  · cases hl
  simp only [atM, V.mp.injEq] at he2
  obtain ⟨rfl, rfl, rfl⟩ := he2
  have hbb : b2 = b := by omega
  subst hbb
  obtain ⟨r1, r2, r3⟩ := hrel2.ok.b_lt 3 1 b2 hbl2
  refine ⟨v, hv', v, .sl ((order g).map vi), [.bool false, atM id (order g)], { F := (h'.drop (keepP S [(3, .mem [.own 72])])).F, bl := fun t i => if t = 1 ∧ i = 1 then some b2 else none, K := h'.K }, rfl, hfrm.below, hfrm.same,
    ⟨hrel2.ok.base, hrel2.ok.f_lt, hrel2.ok.f_or, hrel2.ok.g_F, fun t i x hx => ?_, fun t i t' i' x hx hx' => ?_, hrel2.ok.k_lt, fun t i x hx => ?_, hrel2.ok.k_F⟩, hK, hvr, ⟨rfl, fun i k y hk hkz hy => ?_⟩, rfl⟩
  · simp only at hx
    split at hx
    · simp only [Option.some.injEq] at hx; subst hx; exact ⟨r1, r2, r3⟩
    · cases hx
  · simp only at hx hx'
    split at hx <;> split at hx' <;> first | (cases hx; done) | (cases hx'; done) | skip
    rename_i c1 c2
    exact ⟨c1.1.trans c2.1.symm, c1.2.trans c2.2.symm⟩
  · simp only at hx
    split at hx
    · simp only [Option.some.injEq] at hx; subst hx; exact hrel2.ok.k_bl 3 1 b2 hbl2
    · cases hx
  · match i, hk, hy with
    | 0, hk, hy => simp at hk; exact absurd hk.symm hkz
    | 1, hk, hy =>
      simp at hk hy
      subst hk hy
      exact ⟨_, rfl, _, rfl, .inr ⟨id, _, _, b2, es2, clk2, rfl, hv, by simp, hB, hid, hh2, q1, q2, q3, q4⟩⟩
    | i + 2, hk, hy => simp at hk
end Vm
/-
  Canons: canon.moved, canon.canon; Canon, Order, Alike.
-/
namespace Vm
open Go Go.Proofs
set_option maxRecDepth 100000
set_option linter.unusedSimpArgs false
set_option linter.unusedVariables false
def at0 (l : List Int) (p : Int) : Int := match l.findIdx? (· == p) with
  | some i => (i : Nat)
  | none => 0
def movedL (l ps : List Int) : List Int := ps.map fun p => if 0 ≤ p then at0 l p else p
def canonNd (g : Gr) (l : List Int) (x : Int) : Nd := let n := (g.nodes[x.toNat]?).getD default; ⟨movedL l n.ptrs, n.data⟩
def canon (g : Gr) : Gr := ⟨(order g).map (canonNd g (order g)), movedL (order g) g.roots⟩
theorem lkV_at0 {id : Nat} {l : List Int} {x : Int} : lkV (.i .i64) (atM id l) (vi x) (vi 0) false = some (vi (at0 l x)) := by
  rw [lkV_at]
  unfold at0
  cases l.findIdx? (· == x) <;> simp
theorem flat_vi {l : List Int} : ∀ c ∈ flat (l.map vi), c.flatc = true := by
  intro c hc
  simp only [flat, List.mem_flatMap, List.mem_map] at hc
  obtain ⟨y, ⟨a, _, rfl⟩, hc⟩ := hc
  have : c = vi a := by simpa [V.cells] using hc
  subst this; rfl
theorem moved_vc {ps l : List Int} {id : Nat} (hp : ps.length ≤ 100000) : VC Try.prog 58 true [.sl (ps.map vi), atM id l] (.sl ((movedL l ps).map vi)) := by
  refine vc_fresh (t := 4) (ty := 3) Try.func58 follows (by kernel_rfl) rfl c58 rfl flat_vi ?_
  simp [p58]
  refine wpS_loop (fun t => ∃ i : Nat, i ≤ ps.length ∧ t = [.v (.sl (ps.map vi)), .v (atM id l), .v (.sl []), .v (.sl ((movedL l (ps.take i)).map vi)), .v (vi i), .v (vi ps.length), .no, .no, .v (.sl (ps.map vi))]) (fun t => match get t 4 with | .v (.int _ n) => ps.length - n.toNat | _ => 0) ?_ ?_
  · exact ⟨0, by simp, by simp [movedL]⟩
  · rintro t ⟨i, hi, rfl⟩
    by_cases h : i < ps.length
    · have hx : ps[i]? = some ps[i] := List.getElem?_eq_getElem h
      have hstep : movedL l (ps.take (i + 1)) = movedL l (ps.take i) ++ [if 0 ≤ ps[i] then at0 l ps[i] else ps[i]] := by
        unfold movedL
        rw [List.take_add_one, hx, List.map_append]; rfl
      have hlen : (movedL l (ps.take i)).length ≤ 100000 := by simp [movedL]; omega
      simp [h]
      simp (disch := omega) only [wrap_i]
      by_cases h0 : 0 ≤ ps[i]
      · simp [h0, lkV_at0]
        refine ⟨by simp [lim]; omega, ⟨i + 1, by omega, by rw [hstep]; simp [h0], by simp⟩, by omega⟩
      · simp [h0]
        refine ⟨by simp [lim]; omega, ⟨i + 1, by omega, by rw [hstep]; simp [h0], by simp⟩, by omega⟩
    · have : i = ps.length := by omega
      subst this
      simp
theorem orderL_good {g : Gr} (hr : right g = true) : ∀ {f i : Nat} {l : List Int}, Good g.nodes.length l → Good g.nodes.length (orderL g f i l)
  | 0, i, l, h => h
  | f + 1, i, l, h => by
    simp only [orderL]
    split
    · rename_i x hx
      refine orderL_good hr (noteL_good h fun y hy => ?_)
      obtain ⟨x0, x1⟩ := h.2 x (List.mem_of_getElem? hx)
      have hlt : x.toNat < g.nodes.length := by omega
      rw [List.getElem?_eq_getElem hlt] at hy
      exact (right_ptrs hr _ (List.getElem_mem hlt) y hy).2
    · exact h
theorem order_good {g : Gr} (hr : right g = true) : Good g.nodes.length (order g) :=
  orderL_good hr (noteL_good ⟨by simp, by simp⟩ fun x hx => (right_roots hr x hx).2)
theorem canon_vcm {g : Gr} (hg : g.sm) (hr : right g = true) (id : Nat) (ks vs : List V) : VCM Try.prog 42 [.fz, .own 72] [grV g, .mp id ks vs] (.tup [grV (canon g), atM id (order g)]) := by
  refine vcm_of_wp Try.func42 follows (by kernel_rfl) c42 (by kernel_rfl) ?_
  simp [p42]
  refine callWM_of (order_vcm hg hr id ks vs) ?_
  simp
  obtain ⟨hg1, hg2, hg3⟩ := hg
  have hgood := order_good hr
  have hlen := hgood.len
  generalize ho : order g = l at hgood hlen
  refine wpS_loop (fun t => ∃ i : Nat, i ≤ l.length ∧ t = [.v (grV g), .v (atM id l), .m [.sl (g.nodes.map ndV), .sl (g.roots.map vi)], .m [.sl [], .sl []], .m [.sl (((l.take i).map (canonNd g l)).map ndV), .sl []], .v (vi i), .v (vi l.length), .no, .no, .v (.sl (l.map vi))]) (fun t => match get t 5 with | .v (.int _ n) => l.length - n.toNat | _ => 0) ?_ ?_
  · exact ⟨0, by simp, by simp⟩
  · rintro t ⟨i, hi, rfl⟩
    by_cases h : i < l.length
    · have hx : l[i]? = some l[i] := List.getElem?_eq_getElem h
      obtain ⟨x0, x1⟩ := hgood.2 _ (List.getElem_mem h)
      obtain ⟨k, hk⟩ := Int.eq_ofNat_of_zero_le x0
      have hkl : k < g.nodes.length := by omega
      obtain ⟨s1, s2⟩ := hg3 _ (List.getElem_mem hkl)
      simp [h, hk, hkl]
      refine callW_of (moved_vc s1) (by simp) ?_
      simp
      simp (disch := omega) only [wrap_i]
      have hnd : V.agg [V.sl (List.map vi (movedL l g.nodes[k].ptrs)), V.sl (List.map vu g.nodes[k].data)] = ndV (canonNd g l l[i]) := by
        simp [canonNd, hk, hkl, ndV]
      refine ⟨by simp [lim]; omega, by simp [lim]; omega, ⟨i + 1, by omega, ?_, by simp⟩, by omega⟩
      rw [List.take_add_one, List.getElem?_map, hx, hnd]; rfl
    · have : i = l.length := by omega
      subst this
      simp
      refine callW_of (moved_vc hg2) (by simp) ?_
      simp
      simp [canon, grV, ho]

theorem canon_sm {g : Gr} (hg : g.sm) (hr : right g = true) : (canon g).sm := by
  obtain ⟨hg1, hg2, hg3⟩ := hg
  have hgood := order_good hr
  have hlen := hgood.len
  refine ⟨by simp [canon]; omega, by simpa [canon, movedL] using hg2, fun n hn => ?_⟩
  simp only [canon, List.mem_map] at hn
  obtain ⟨x, hx, rfl⟩ := hn
  obtain ⟨x0, x1⟩ := hgood.2 x hx
  have hlt : x.toNat < g.nodes.length := by omega
  have := hg3 _ (List.getElem_mem hlt)
  simpa [canonNd, hlt, movedL] using this
def noGr : Gr := ⟨[], []⟩
def canonR (g : Gr) : V := if right g = true then .tup [grV (canon g), vi 0] else .tup [grV noGr, vi 1]
theorem Canon_vc {g : Gr} (hg : g.sm) : VC Try.prog 20 false [grV g] (canonR g) := by
  refine vc_of_wp Try.func20 follows (by kernel_rfl) c20 rfl ?_
  simp [p20]
  refine callW_of (right_vc hg) (by simp) ?_
  cases hr : right g
  · simp [canonR, hr, noGr, grV]
  · simp
    refine callWM_of (canon_vcm hg hr 0 [] []) ?_
    simp [canonR, hr]
    simp [grV]
def orderR (g : Gr) : List Int := if right g = true then order g else []
theorem Order_vc {g : Gr} (hg : g.sm) : VC Try.prog 23 false [grV g] (.sl ((orderR g).map vi)) := by
  refine vc_of_wp Try.func23 follows (by kernel_rfl) c23 rfl ?_
  simp [p23]
  refine callW_of (right_vc hg) (by simp) ?_
  cases hr : right g
  · simp [orderR, hr]
  · simp
    refine callWM_of (order_vcm hg hr 0 [] []) ?_
    simp [orderR, hr]
def alike (a b : Gr) : Bool := right a && right b && decide (canon a = canon b)
theorem Alike_vc {a b : Gr} (ha : a.sm) (hb : b.sm) : VC Try.prog 26 false [grV a, grV b] (.bool (alike a b)) := by
  refine vc_of_wp Try.func26 follows (by kernel_rfl) c26 rfl ?_
  simp [p26]
  refine callW_of (right_vc ha) (by simp) ?_
  cases hra : right a
  · simp [alike, hra]
  · simp
    refine callW_of (right_vc hb) (by simp) ?_
    cases hrb : right b
    · simp [alike, hrb]
    · simp
      refine callWM_of (canon_vcm ha hra 0 [] []) ?_
      simp
      refine callWM_of (canon_vcm hb hrb 0 _ _) ?_
      have hsa := canon_sm ha hra
      simp
      refine callW_of (equalI_vc hsa.2.1) (by simp) ?_
      by_cases h : (canon a).roots = (canon b).roots
      · simp [h]
        refine callW_of (equalFunc_vc hsa.1 hsa.2.2) (by simp) ?_
        simp [alike, hra, hrb]
        generalize canon a = x at h
        generalize canon b = y at h
        cases x; cases y
        simp at h
        simp [h]
      · simp [h, alike, hra, hrb]
        intro e
        exact h (by rw [e])
/-- the reference's own: graphs are the same, node by node -/
theorem Same_vc {a b : Gr} (ha : a.sm) : VC Try.prog 25 false [grV a, grV b] (.bool (decide (a = b))) := by
  refine vc_of_wp Try.func25 follows (by kernel_rfl) c25 rfl ?_
  obtain ⟨h1, h2, h3⟩ := ha
  simp [p25]
  refine callW_of (ints_vc h2) (by simp) ?_
  by_cases hr : a.roots = b.roots
  · simp [hr]
    by_cases hl : a.nodes.length = b.nodes.length
    · simp [hl]
      refine wpS_loop (fun t => ∃ i : Nat, i ≤ b.nodes.length ∧ a.nodes.take i = b.nodes.take i ∧ t = [.v (grV a), .v (grV b), .m [.sl (a.nodes.map ndV), .sl (a.roots.map vi)], .m [.sl (b.nodes.map ndV), .sl (b.roots.map vi)], .v (.bool false), .v (.bool true), .v (.bool false), .v (vi i)]) (fun t => match get t 7 with | .v (.int _ n) => b.nodes.length - n.toNat | _ => 0) ?_ ?_
      · exact ⟨0, by simp, by simp, by simp [hr]⟩
      · rintro t ⟨i, hi, heq, rfl⟩
        by_cases h : i < b.nodes.length
        · have h' : i < a.nodes.length := by omega
          obtain ⟨s1, s2⟩ := h3 _ (List.getElem_mem h')
          simp [h, h', hl]
          refine callW_of (ints_vc s1) (by simp) ?_
          simp [h, h', hl]
          refine callW_of (nums_vc s2) (by simp) ?_
          by_cases hp : a.nodes[i].ptrs = b.nodes[i].ptrs
          · by_cases hd : a.nodes[i].data = b.nodes[i].data
            · simp [hp, hd]
              simp (disch := omega) only [wrap_i]
              have hx : a.nodes[i] = b.nodes[i] := by
                generalize a.nodes[i] = x at hp hd
                generalize b.nodes[i] = y at hp hd
                cases x; cases y; simp at hp hd; simp [hp, hd]
              exact ⟨⟨i + 1, by omega, take_succ_eq heq (by simp [h, h', hx]), by simp⟩, by omega⟩
            · simp [hp, hd]
              intro e; subst e; exact hd rfl
          · simp [hp]
            intro e; subst e; exact hp rfl
        · have : i = b.nodes.length := by omega
          subst this
          rw [List.take_length, List.take_of_length_le (by omega)] at heq
          simp [hl]
          cases a; cases b
          simp at heq hr
          simp [heq, hr]
    · simp [show ¬ ((a.nodes.length : Int) = (b.nodes.length : Int)) by omega]
      intro e; subst e; exact hl rfl
  · simp [hr]
    intro e; subst e; exact hr rfl
end Vm
/-
  Graph (of raw nodes) makes a right graph: what it computes.
-/
namespace Vm
open Go Go.Proofs
set_option linter.unusedSimpArgs false
set_option linter.unusedVariables false
set_option maxRecDepth 100000
@[simp] theorem slcV_zero {k : IntKind} {l : List V} (j n : Nat) : slcV n (.sl l) (.int k 0) (.int k (j : Int)) = if j ≤ l.length ∧ sizeOk n l = true then some (.sl (l.take j)) else none := by
  have := slcV_nat (k := k) (l := l) 0 j n
  simpa using this
def Fit (n : Int) : Prop := -9223372036854775808 ≤ n ∧ n ≤ 9223372036854775807
/-- which of n things a raw number speaks of -/
def pick (c n : Int) : Int := (if c < 0 then -(c + 1) else c) % n
theorem pick_lt {c n : Int} (hn : 0 < n) : 0 ≤ pick c n ∧ pick c n < n := ⟨Int.emod_nonneg _ (by omega), Int.emod_lt_of_pos _ hn⟩
theorem pick_vc {c n : Int} (hc : Fit c) (hn : 0 < n) : VC Try.prog 34 false [vi c, vi n] (vi (pick c n)) := by
  refine vc_of_wp Try.func34 follows (by kernel_rfl) c34 rfl ?_
  obtain ⟨h1, h2⟩ := hc
  by_cases h : c < 0
  · simp [p34, h]
    simp (disch := omega) only [wrap_i]
    refine ⟨by omega, ?_⟩
    unfold pick
    rw [if_pos h, Int.tmod_eq_emod_of_nonneg (by omega)]
  · simp [p34, h]
    refine ⟨by omega, ?_⟩
    unfold pick
    rw [if_neg h, Int.tmod_eq_emod_of_nonneg (by omega)]
/-- a raw pointer -/
def rp (n : Nat) (p : Int) : Int := pick p (n + 1) - 1
def mkNd (n : Nat) (x : Nd) : Nd := ⟨(x.ptrs.take 4).map (rp n), x.data.take 4⟩
def mkN (l : List Nd) : Nat := min l.length 10
def mkG (l : List Nd) (roots : List Int) : Gr := ⟨(l.take (mkN l)).map (mkNd (mkN l)), if roots.take 5 = [] then [(mkN l : Int) - 1] else (roots.take 5).map (rp (mkN l))⟩
theorem Graph_vc {l : List Nd} {roots : List Int} (hl : ∀ x ∈ l, ∀ p ∈ x.ptrs, Fit p) (hr : ∀ p ∈ roots, Fit p) : VC Try.prog 16 false [.sl (l.map ndV), .sl (roots.map vi)] (grV (mkG l roots)) := by
  refine vc_of_wp Try.func16 follows (by kernel_rfl) c16 rfl ?_
  have hn10 : mkN l ≤ 10 := by unfold mkN; omega
  have hnl : mkN l ≤ l.length := by unfold mkN; omega
  have hmin : (if (10 : Int) < (l.length : Int) then (10 : Int) else (l.length : Int)) = (mkN l : Int) := by
    unfold mkN; split <;> omega
  simp [p16, hmin]
  generalize hn : mkN l = n at *
  have hwn := wrap_i ((n : Int) + 1) (by omega) (by omega)
  refine wpS_loop (fun t => ∃ i : Nat, i ≤ n ∧ t = [.v (.sl (l.map ndV)), .v (.sl (roots.map vi)), .m [.sl [], .sl []], .v (vi n), .m [.sl (((l.take i).map (mkNd n)).map ndV), .sl []], .v (vi i)]) (fun t => match get t 5 with | .v (.int _ i) => n - i.toNat | _ => 0) ?_ ?_
  · exact ⟨0, by simp, by simp⟩
  · rintro t ⟨i, hi, rfl⟩
    have hw := wrap_i ((i : Int) + 1) (by omega) (by omega)
    by_cases h : i < n
    · have hil : i < l.length := by omega
      have hx : l[i]? = some l[i] := List.getElem?_eq_getElem hil
      simp [h]
      generalize hnd : l[i] = x at hx
      have hxp : ∀ p ∈ x.ptrs, Fit p := hl x (List.mem_of_getElem? hx)
      have hdm : (if (4 : Int) < (x.data.length : Int) then (4 : Int) else (x.data.length : Int)) = ((min x.data.length 4 : Nat) : Int) := by split <;> omega
      refine wpS_loop (fun t => ∃ k : Nat, k ≤ x.ptrs.length ∧ k ≤ 4 ∧ t = [.v (.sl (l.map ndV)), .v (.sl (roots.map vi)), .m [.sl [], .sl []], .v (vi n), .m [.sl (((l.take i).map (mkNd n)).map ndV), .sl []], .v (vi i), .v (.bool true), .m [.sl (((x.ptrs.take k).map (rp n)).map vi), .sl []], .v (vi k)]) (fun t => match get t 8 with | .v (.int _ i) => 4 - i.toNat | _ => 0) ?_ ?_
      · exact ⟨0, by simp, by simp, by simp⟩
      · rintro t ⟨k, hk, hk4, rfl⟩
        have hwk := wrap_i ((k : Int) + 1) (by omega) (by omega)
        by_cases h4 : k < x.ptrs.length ∧ k < 4
        · obtain ⟨ha, hb⟩ := h4
          have hp : x.ptrs[k]? = some x.ptrs[k] := List.getElem?_eq_getElem ha
          have hkb : (k : Int) < 4 := by omega
          simp [hil, hnd, ha, hkb, hwn]
          refine callW_of (pick_vc (hxp _ (List.getElem_mem ha)) (by omega)) (by simp) ?_
          have hpl := pick_lt (c := x.ptrs[k]) (n := (n : Int) + 1) (by omega)
          have hwp := wrap_i (pick x.ptrs[k] ((n : Int) + 1) - 1) (by omega) (by omega)
          simp [hwk, hwp]
          refine ⟨by simp [lim]; omega, ⟨k + 1, by omega, by omega, ?_, by simp⟩, by omega⟩
          rw [List.take_add_one, List.getElem?_map, hp]
          rfl
        · have hend : (x.ptrs.take k) = x.ptrs.take 4 := by
            by_cases ha : k < x.ptrs.length
            · have : k = 4 := by omega
              rw [this]
            · rw [List.take_of_length_le (by omega), List.take_of_length_le (by omega)]
          have hfin : (l.take (i + 1)).map (ndV ∘ mkNd n) = (l.take i).map (ndV ∘ mkNd n) ++ [V.agg [.sl ((x.ptrs.take k).map (vi ∘ rp n)), .sl ((x.data.take (min x.data.length 4)).map vu)]] := by
            rw [List.take_add_one, hx, List.map_append, hend]
            have hmd : x.data.take (min x.data.length 4) = x.data.take 4 := by
              by_cases hd : x.data.length ≤ 4
              · rw [List.take_of_length_le (by omega), List.take_of_length_le (by omega)]
              · congr 1; omega
            rw [hmd]
            simp [ndV, mkNd]
          have hsz : sizeOk 1 ((x.data.take (min x.data.length 4)).map vu) = true := sizeOk_vi _
          have hl1 : min x.data.length 4 ≤ lim := by simp [lim]; omega
          have hl2 : min i l.length + 1 ≤ lim := by simp [lim]; omega
          have hl3 : min x.data.length 4 ≤ x.data.length := by omega
          simp only [List.map_take] at hfin hsz
          have hkb : k < x.ptrs.length → ¬ (k : Int) < 4 := by omega
          by_cases ha : k < x.ptrs.length
          all_goals (
            simp [hil, hnd, ha, hkb, hdm, hl1, hl2, hsz, hw, hl3]
            exact ⟨⟨i + 1, by omega, hfin.symm, by simp⟩, by omega⟩)
    · have : i = n := by omega
      subst this
      simp
      have hwn1 := wrap_i ((i : Int) - 1) (by omega) (by omega)
      refine wpS_loop (fun t => ∃ k : Nat, k ≤ roots.length ∧ k ≤ 5 ∧ t = [.v (.sl (l.map ndV)), .v (.sl (roots.map vi)), .m [.sl [], .sl []], .v (vi i), .m [.sl ((l.take i).map (ndV ∘ mkNd i)), .sl ((roots.take k).map (vi ∘ rp i))], .v (vi i), .v (.bool false), .no, .no, .no, .v (vi k)]) (fun t => match get t 10 with | .v (.int _ i) => 5 - i.toNat | _ => 0) ?_ ?_
      · exact ⟨0, by simp, by simp, by simp⟩
      · rintro t ⟨k, hk, hk5, rfl⟩
        have hwk := wrap_i ((k : Int) + 1) (by omega) (by omega)
        by_cases h5 : k < roots.length ∧ k < 5
        · obtain ⟨ha, hb⟩ := h5
          have hp : roots[k]? = some roots[k] := List.getElem?_eq_getElem ha
          have hkb : (k : Int) < 5 := by omega
          simp [ha, hkb, hwn]
          refine callW_of (pick_vc (hr _ (List.getElem_mem ha)) (by omega)) (by simp) ?_
          have hpl := pick_lt (c := roots[k]) (n := (i : Int) + 1) (by omega)
          have hwp := wrap_i (pick roots[k] ((i : Int) + 1) - 1) (by omega) (by omega)
          simp [hwk, hwp]
          refine ⟨by simp [lim]; omega, ⟨k + 1, by omega, by omega, ?_, by simp⟩, by omega⟩
          rw [List.take_add_one, List.getElem?_map, hp]
          rfl
        · have hend : (roots.take k) = roots.take 5 := by
            by_cases ha : k < roots.length
            · have : k = 5 := by omega
              rw [this]
            · rw [List.take_of_length_le (by omega), List.take_of_length_le (by omega)]
          have hkb : k < roots.length → ¬ (k : Int) < 5 := by omega
          have hg : mkG l roots = ⟨(l.take i).map (mkNd i), if roots.take 5 = [] then [(i : Int) - 1] else (roots.take 5).map (rp i)⟩ := by
            unfold mkG; rw [hn]
          have hlen : (roots.take k).length = k := by rw [List.length_take]; omega
          by_cases hz : k = 0
          · subst hz
            have hnil : roots.take 5 = [] := by rw [← hend]; rfl
            rw [hg, if_pos hnil]
            have ha : ¬ 0 < roots.length := by omega
            have hl1 : 1 ≤ lim := by simp [lim]
            simp [ha, grV, hwn1, hl1]
          · have hnil : roots.take 5 ≠ [] := by
              rw [← hend]; intro h; rw [h] at hlen; simp at hlen; omega
            rw [hg, if_neg hnil, ← hend]
            have hr0 : ¬ roots = [] := by intro h; rw [h] at hk; simp at hk; omega
            by_cases ha : k < roots.length
            all_goals simp [ha, hkb, grV, hz, hr0]
end Vm
