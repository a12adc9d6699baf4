/-
  Graphs; which ones may be: what layer 8's Right tells.
-/
import Derived.Test.YtbmgnmjghhakhaaWa
import Derived.Test.YtbmgnmjghhakhaaGa
namespace Vm
open Go Go.Proofs
set_option maxRecDepth 100000
set_option linter.unusedSimpArgs false
set_option linter.unusedVariables false

structure Nd where
  ptrs : List Int
  data : List Int
  deriving DecidableEq, Inhabited
structure Gr where
  nodes : List Nd
  roots : List Int
  deriving DecidableEq, Inhabited
def ndV (n : Nd) : V := .agg [.sl (n.ptrs.map vi), .sl (n.data.map vu)]
def grV (g : Gr) : V := .agg [.sl (g.nodes.map ndV), .sl (g.roots.map vi)]
@[simp] theorem ndV_cells (n : Nd) : (ndV n).cells = [.sl (n.ptrs.map vi), .sl (n.data.map vu)] := rfl
@[simp] theorem sizeOk_ndV (l : List Nd) : sizeOk 2 (l.map ndV) = true := sizeOk_map fun _ => rfl
@[simp] theorem fldsV_ndV (n : Nd) : fldsV (ndV n) 0 2 = some (ndV n) := rfl
@[simp] theorem fldV_ndV0 (n : Nd) : fldV (ndV n) 0 = some (.sl (n.ptrs.map vi)) := rfl
@[simp] theorem fldV_ndV1 (n : Nd) : fldV (ndV n) 1 = some (.sl (n.data.map vu)) := rfl
@[simp] theorem szV_ndV (n : Nd) : szV (ndV n) 2 = some (ndV n) := rfl
@[simp] theorem fldsV_grV (g : Gr) : fldsV (grV g) 0 2 = some (grV g) := rfl
@[simp] theorem fldV_grV0 (g : Gr) : fldV (grV g) 0 = some (.sl (g.nodes.map ndV)) := rfl
@[simp] theorem fldV_grV1 (g : Gr) : fldV (grV g) 1 = some (.sl (g.roots.map vi)) := rfl
@[simp] theorem szV_grV (g : Gr) : szV (grV g) 2 = some (grV g) := rfl
@[simp] theorem grV_cells (g : Gr) : (grV g).cells = [.sl (g.nodes.map ndV), .sl (g.roots.map vi)] := rfl
/-- no list of it is long -/
def Gr.sm (g : Gr) : Prop := g.nodes.length ≤ 100000 ∧ g.roots.length ≤ 100000 ∧ ∀ n ∈ g.nodes, n.ptrs.length ≤ 100000 ∧ n.data.length ≤ 100000
def inR (n : Nat) (p : Int) : Bool := decide (-1 ≤ p ∧ p < n)
def nodeOk (k : Nat) (n : Nd) : Bool := decide (n.ptrs.length + n.data.length ≤ 255) && n.ptrs.all (inR k)
def right (g : Gr) : Bool := decide (g.roots.length ≤ 16) && g.nodes.all (nodeOk g.nodes.length) && g.roots.all (inR g.nodes.length)

theorem all_take_succ {α : Type} {p : α → Bool} {l : List α} {i : Nat} {x : α} (h : l[i]? = some x) : (l.take (i + 1)).all p = ((l.take i).all p && p x) := by
  rw [List.take_add_one, h, List.all_append]
  simp
theorem all_false_at {α : Type} {p : α → Bool} {l : List α} {i : Nat} {x : α} (h : l[i]? = some x) (hp : p x = false) : l.all p = false := by
  rw [List.all_eq_false]
  exact ⟨x, List.mem_of_getElem? h, by simp [hp]⟩

theorem fine_vcm {l : List Int} {ns : List V} {rs : V} (hl : l.length ≤ 100000) (hr : rs.one = true) (ho : oneV rs = some rs) :
    VCM Try.prog 52 [.fz, .mem [.fz, .fz]] [.sl (l.map vi), .agg [.sl ns, rs]] (.tup [.bool (l.all (inR ns.length)), .agg [.sl ns, rs]]) := by
  refine vcm_of_wp Try.func52 follows (by kernel_rfl) c52 (by kernel_rfl) ?_
  simp [-List.all_eq_true, -List.all_eq_false, p52]
  refine wpS_loop (fun t => ∃ i : Nat, i ≤ l.length ∧ (l.take i).all (inR ns.length) = true ∧ t = [.v (.sl (l.map vi)), .m [.sl ns, rs], .v (.bool false), .v (vi i), .v (vi l.length), .no, .no, .v (.sl (l.map vi))]) (fun t => match get t 3 with | .v (.int _ n) => l.length - n.toNat | _ => 0) ?_ ?_
  · exact ⟨0, by simp, by simp, by simp⟩
  · rintro t ⟨i, hi, hall, rfl⟩
    by_cases h : i < l.length
    · have hx : l[i]? = some l[i] := List.getElem?_eq_getElem h
      simp [-List.all_eq_true, -List.all_eq_false, h]
      simp (disch := omega) only [wrap_i]
      split
      · exact all_false_at hx (by simp [inR]; omega)
      · split
        · exact all_false_at hx (by simp [inR]; omega)
        · refine ⟨⟨i + 1, by omega, ?_, by simp⟩, by omega⟩
          rw [all_take_succ hx, hall]
          simp [inR]; omega
    · have : i = l.length := by omega
      subst this
      simp [-List.all_eq_true, -List.all_eq_false]
      simpa using hall
theorem right_vc {g : Gr} (hg : g.sm) : VC Try.prog 28 false [grV g] (.bool (right g)) := by
  obtain ⟨hg1, hg2, hg3⟩ := hg
  refine vc_of_wp Try.func28 follows (by kernel_rfl) c28 rfl ?_
  simp [-List.all_eq_true, -List.all_eq_false, p28]
  split
  · rename_i h; simp [-List.all_eq_true, -List.all_eq_false, right, show ¬ g.roots.length ≤ 16 by omega]
  · rename_i h
    refine wpS_loop (fun t => ∃ i : Nat, i ≤ g.nodes.length ∧ (g.nodes.take i).all (nodeOk g.nodes.length) = true ∧ t = [.v (grV g), .m [.sl (g.nodes.map ndV), .sl (g.roots.map vi)], .v (.bool false), .v (.bool false), .no, .v (vi i), .v (vi g.nodes.length), .no, .no, .v (.sl (g.nodes.map ndV))]) (fun t => match get t 5 with | .v (.int _ n) => g.nodes.length - n.toNat | _ => 0) ?_ ?_
    · exact ⟨0, by simp, by simp, by simp [h]⟩
    · rintro t ⟨i, hi, hall, rfl⟩
      by_cases hlt : i < g.nodes.length
      · have hx : g.nodes[i]? = some g.nodes[i] := List.getElem?_eq_getElem hlt
        obtain ⟨h1, h2⟩ := hg3 _ (List.getElem_mem hlt)
        have hw := wrap_i ((i : Int) + 1) (by omega) (by omega)
        simp [-List.all_eq_true, -List.all_eq_false, hlt, hw]
        simp (disch := omega) only [wrap_i]
        have hno : nodeOk g.nodes.length g.nodes[i] = false → right g = false := fun h0 => by simp [-List.all_eq_true, -List.all_eq_false, right, all_false_at hx h0]
        by_cases h3 : (g.nodes[i].ptrs.length : Int) + (g.nodes[i].data.length : Int) ≤ 255
        · rw [if_pos h3]
          refine callWM_of (fine_vcm h1 (by rfl) (by rfl)) ?_
          have h3' : ¬ (255 : Int) < (g.nodes[i].ptrs.length : Int) + (g.nodes[i].data.length : Int) := by omega
          cases h4 : g.nodes[i].ptrs.all (inR g.nodes.length)
          · simp [-List.all_eq_true, -List.all_eq_false, h3', h4]
            exact hno (by simp [-List.all_eq_true, -List.all_eq_false, nodeOk, h4])
          · simp [-List.all_eq_true, -List.all_eq_false, h3', h4, hw]
            refine ⟨⟨i + 1, by omega, ?_, by simp⟩, by omega⟩
            rw [all_take_succ hx, hall]
            simp [-List.all_eq_true, -List.all_eq_false, nodeOk, h4]
            omega
        · rw [if_neg h3]
          exact hno (by simp [-List.all_eq_true, -List.all_eq_false, nodeOk]; intro; omega)
      · have : i = g.nodes.length := by omega
        subst this
        simp [-List.all_eq_true, -List.all_eq_false]
        refine callWM_of (fine_vcm hg2 (by rfl) (by rfl)) ?_
        rw [List.take_length] at hall
        simp [-List.all_eq_true, -List.all_eq_false, right, hall]
        omega
end Vm
