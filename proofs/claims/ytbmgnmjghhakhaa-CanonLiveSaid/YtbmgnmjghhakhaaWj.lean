/-
  The law CanonLive, as a contract of the code.
-/
import Derived.Test.YtbmgnmjghhakhaaWi
import Derived.Test.YtbmgnmjghhakhaaGd
namespace Vm
open Go Go.Proofs
set_option maxRecDepth 100000
set_option linter.unusedSimpArgs false
set_option linter.unusedVariables false
/-! ### Words of some nodes, each once -/
theorem wsum_cons (x : Nd) (l : List Nd) : wsum (x :: l) = ndW x + wsum l := by simp [wsum]
def wAt (g : Gr) (x : Int) : Nat := ndW ((g.nodes[x.toNat]?).getD default)
theorem sum_sub : ∀ (n : Nat) (f : Int → Nat) {l : List Int}, Good n l → (l.map f).sum ≤ ((List.range n).map fun i : Nat => f i).sum
  | 0, f, l, h => by
    have := h.len
    have : l = [] := List.eq_nil_of_length_eq_zero (by omega)
    subst this; simp
  | n + 1, f, l, h => by
    rw [List.range_succ, List.map_append, List.sum_append]
    by_cases hm : (n : Int) ∈ l
    · have h1 : Good n (l.erase (n : Int)) := ⟨h.1.erase _, fun x hx => by
        have hx' := (h.1.mem_erase_iff).1 hx
        have := h.2 x hx'.2
        omega⟩
      have h2 := sum_sub n f h1
      have h3 : (l.map f).sum = f n + ((l.erase (n : Int)).map f).sum := by
        have h4 := (List.perm_cons_erase hm).map f
        have h5 := h4.sum_nat
        simpa using h5
      rw [h3]; simp; omega
    · have h1 : Good n l := ⟨h.1, fun x hx => by
        have h2 := h.2 x hx
        have : x ≠ n := fun e => hm (e ▸ hx)
        omega⟩
      have := sum_sub n f h1
      simp; omega
theorem wsum_range (l : List Nd) : wsum l = ((List.range l.length).map fun i : Nat => ndW ((l[i]?).getD default)).sum := by
  unfold wsum
  congr 1
  apply List.ext_getElem?
  intro i
  rw [List.getElem?_map, List.getElem?_map]
  by_cases h : i < l.length
  · simp [h]
  · rw [List.getElem?_eq_none (by omega), List.getElem?_eq_none (by simp; omega)]; rfl
theorem canon_words {g : Gr} (hr : right g = true) : words (canon g) ≤ words g := by
  unfold words
  rw [if_pos hr]
  split
  · have h := sum_sub g.nodes.length (wAt g) (order_good hr)
    have h2 : wsum (canon g).nodes = ((order g).map (wAt g)).sum := by
      unfold wsum canon
      simp only [List.map_map]
      congr 1
      refine List.map_congr_left fun x _ => ?_
      simp only [Function.comp, canonNd, ndW, wAt, movedL, List.length_map]
    rw [h2, wsum_range]
    exact h
  · omega
theorem canon_nodes_len (g : Gr) : (canon g).nodes.length = (order g).length := by simp [canon]
theorem canon_roots_len (g : Gr) : (canon g).roots.length = g.roots.length := by simp [canon, movedL]
/-! ### With other roots -/
theorem noteL_neg : ∀ {l acc : List Int}, (∀ x ∈ l, x < 0) → noteL acc l = acc
  | [], acc, _ => rfl
  | x :: l, acc, h => by
    have h1 := h x (by simp)
    simp only [noteL]
    rw [if_neg (by omega)]
    exact noteL_neg fun y hy => h y (by simp [hy])
theorem noteL_old : ∀ {l acc : List Int}, (∀ x ∈ l, 0 ≤ x → x ∈ acc) → noteL acc l = acc
  | [], acc, _ => rfl
  | x :: l, acc, h => by
    simp only [noteL]
    rw [if_neg (fun hc => hc.2 (h x (by simp) hc.1))]
    exact noteL_old fun y hy => h y (by simp [hy])
theorem order_of_first {g h : Gr} (hn : g.nodes = h.nodes) (hr : noteL [] g.roots = noteL [] h.roots) : order g = order h := by
  have : ∀ (f i : Nat) (l : List Int), orderL g f i l = orderL h f i l := by
    intro f
    induction f with
    | zero => intro i l; rfl
    | succ f ih =>
      intro i l
      simp only [orderL, hn]
      cases l[i]? with
      | none => rfl
      | some x => exact ih _ _
  unfold order
  rw [hn, hr, this]
theorem order_empty {g : Gr} (h : ∀ x ∈ g.roots, x < 0) : order g = [] := by
  unfold order
  rw [noteL_neg h]
  simp [orderL]
theorem right_with {g : Gr} (hr : right g = true) {rs : List Int} (h1 : rs.length ≤ 16) (h2 : ∀ x ∈ rs, -1 ≤ x ∧ x < g.nodes.length) : right ⟨g.nodes, rs⟩ = true := by
  simp only [right, Bool.and_eq_true, List.all_eq_true, decide_eq_true_eq] at hr ⊢
  exact ⟨⟨h1, hr.1.2⟩, fun x hx => by simpa [inR] using h2 x hx⟩

theorem law6 {l : List Nd} {roots : List Int} {r : Int} (hl : ∀ x ∈ l, ∀ p ∈ x.ptrs, Fit p) (hr : ∀ p ∈ roots, Fit p) (hr' : Fit r) : VC Try.prog 6 false [.sl (l.map ndV), .sl (roots.map vi), vi r] (.bool true) := by
  refine vc_of_wp Try.func6 follows (by kernel_rfl) c6 rfl ?_
  simp [p6]
  refine callW_of awake9_vc (by simp) ?_
  simp
  refine callW_of (Graph_vc hl hr) (by simp) ?_
  have hgr := mkG_right l roots
  have hgs := mkG_sm l roots
  obtain ⟨hb1, hb2, hb3⟩ := mkG_bounds l roots
  have hb4 : 0 < (mkG l roots).roots.length := by
    simp only [mkG]; split
    · simp
    · rename_i h
      cases roots with
      | nil => simp at h
      | cons a t => simp
  generalize mkG l roots = g at *
  have hcs := canon_sm hgs hgr
  have hC := Canon_vc hgs
  rw [show canonR g = .tup [grV (canon g), vi 0] by unfold canonR; rw [if_pos hgr]] at hC
  have hO := Order_vc hgs
  rw [show orderR g = order g from if_pos hgr] at hO
  have hwl := canon_words hgr
  have hnl := canon_nodes_len g
  have hrl := canon_roots_len g
  have hol := (order_good hgr).len
  have h1 : (canon g).nodes.length ≤ g.nodes.length := by omega
  have h1' : (order g).length ≤ g.nodes.length := by omega
  simp
  refine callW_of hC (by simp) ?_
  simp [h1, h1', hnl]
  refine callW_of (Words_vc hcs) (by simp) ?_
  simp [h1, h1', hnl]
  refine callW_of (Words_vc hgs) (by simp) ?_
  simp [h1, h1', hnl, hwl, hrl]
  refine callW_of hO (by simp) ?_
  simp [hnl]
  refine wpS_loop (fun t => ∃ i x8, i ≤ g.roots.length ∧ t = [.v (.sl (l.map ndV)), .v (.sl (roots.map vi)), .v (vi r), .v (.bool false), .v (.bool true), .m [.sl (g.nodes.map ndV), .sl (g.roots.map vi)], .m [.sl ((canon g).nodes.map ndV), .sl ((canon g).roots.map vi)], .v (vi 0), x8, .m [.sl (g.nodes.map ndV), .sl ((List.replicate i (-1)).map vi)], .v (vi (i : Nat))]) (fun t => match get t 10 with | .v (.int _ i) => 5 - i.toNat | _ => 0) ?_ ?_
  · exact ⟨0, _, by simp, by simp; rfl⟩
  · rintro t ⟨i, x8, hi, rfl⟩
    have hw := wrap_i ((i : Int) + 1) (by omega) (by omega)
    by_cases h : i < g.roots.length
    · simp [h, hw]
      exact ⟨by simp [lim]; omega, ⟨i + 1, by omega, by simp [List.replicate_succ'], by simp⟩, by omega⟩
    · have : i = g.roots.length := by omega
      subst this
      have hnone : right ⟨g.nodes, List.replicate g.roots.length (-1)⟩ = true := right_with hgr (by simp; omega) (fun x hx => by
        have := (List.mem_replicate.1 hx).2; omega)
      have hsn : (⟨g.nodes, List.replicate g.roots.length (-1)⟩ : Gr).sm := ⟨hgs.1, by simp; omega, hgs.2.2⟩
      have hD := Canon_vc hsn
      rw [show canonR ⟨g.nodes, List.replicate g.roots.length (-1)⟩ = .tup [grV (canon ⟨g.nodes, List.replicate g.roots.length (-1)⟩), vi 0] by unfold canonR; rw [if_pos hnone]] at hD
      have hdn := canon_nodes_len ⟨g.nodes, List.replicate g.roots.length (-1)⟩
      rw [order_empty (fun x hx => by have := (List.mem_replicate.1 hx).2; omega)] at hdn
      simp only [grV, List.map_replicate] at hD
      simp
      refine callW_of hD (by simp) ?_
      have hpl := pick_lt (c := r) (n := (g.roots.length : Int)) (by omega)
      obtain ⟨k, hk⟩ := Int.eq_ofNat_of_zero_le hpl.1
      have hkl : k < g.roots.length := by omega
      have hl1 : g.roots.length ≤ lim := by simp [lim]; omega
      have hl2 : g.roots.length + 1 ≤ lim := by simp [lim]; omega
      have hp := pick9_vc hr' (n := (g.roots.length : Int)) (by omega)
      simp [flV, V.flatc]
      refine callW_of hp (by simp) ?_
      simp [hk, hkl, hl1, hl2]
      have hin := right_roots hgr
      have hmore : right ⟨g.nodes, g.roots ++ [g.roots[k]]⟩ = true := right_with hgr (by simp; omega) (fun x hx => by
        rcases List.mem_append.1 hx with h | h
        · exact hin x h
        · simp at h; subst h; exact hin _ (List.getElem_mem hkl))
      have hsm : (⟨g.nodes, g.roots ++ [g.roots[k]]⟩ : Gr).sm := ⟨hgs.1, by simp; omega, hgs.2.2⟩
      have hX := Canon_vc hsm
      rw [show canonR ⟨g.nodes, g.roots ++ [g.roots[k]]⟩ = .tup [grV (canon ⟨g.nodes, g.roots ++ [g.roots[k]]⟩), vi 0] by unfold canonR; rw [if_pos hmore]] at hX
      have hxn := canon_nodes_len ⟨g.nodes, g.roots ++ [g.roots[k]]⟩
      have hxr := canon_roots_len ⟨g.nodes, g.roots ++ [g.roots[k]]⟩
      have ho : order ⟨g.nodes, g.roots ++ [g.roots[k]]⟩ = order g := order_of_first rfl (by
        rw [noteL_append]
        exact noteL_old fun x hx h0 => by
          simp at hx; subst hx
          rw [noteL_mem]
          exact .inr ⟨List.getElem_mem hkl, h0⟩)
      rw [ho] at hxn
      simp only [grV, List.map_append, List.map_cons, List.map_nil] at hX
      refine callW_of hX (by simp) ?_
      have hw4 := wrap_i ((g.roots.length : Int) + 1) (by omega) (by omega)
      simp [flV, V.flatc, hxn, hxr, hdn, hnl, hrl, hw4]
end Vm
