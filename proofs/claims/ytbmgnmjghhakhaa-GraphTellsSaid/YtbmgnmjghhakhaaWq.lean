/-
  The law CanonTells, as a contract of the code.
-/
import Derived.Test.YtbmgnmjghhakhaaW4
import Derived.Test.YtbmgnmjghhakhaaWl
import Derived.Test.YtbmgnmjghhakhaaGh
namespace Vm
open Go Go.Proofs
set_option linter.unusedSimpArgs false
set_option linter.unusedVariables false
set_option maxRecDepth 100000
/-- a graph, cut short -/
def fewNd (n : Nd) : Nd := ⟨n.ptrs.take 6, n.data.take 6⟩
def fewG (g : Gr) : Gr := ⟨(g.nodes.take 6).map fewNd, g.roots.take 20⟩
theorem few_sm (g : Gr) : (fewG g).sm := by
  refine ⟨by simp [fewG]; omega, by simp [fewG]; omega, fun n hn => ?_⟩
  simp only [fewG, List.mem_map] at hn
  obtain ⟨x, _, rfl⟩ := hn
  simp only [fewNd, List.length_take]; omega
theorem doR_sm {g : Gr} {a : Ac} (hg : g.nodes.length ≤ 99999 ∧ g.roots.length ≤ 100000 ∧ ∀ n ∈ g.nodes, n.ptrs.length ≤ 100000 ∧ n.data.length ≤ 100000) : (doR g a).2.1.sm := by
  obtain ⟨h1, h2, h3⟩ := hg
  have hno : noGr.sm := ⟨by simp [noGr], by simp [noGr], by simp [noGr]⟩
  have hroot : ∀ r x, (rooted g r x).sm := fun r x => ⟨by simp [rooted]; omega, by simp [rooted]; omega, h3⟩
  have hturn : ∀ i (n : Nd), (n.ptrs.length ≤ 100000 ∧ n.data.length ≤ 100000) → (turned g i n).sm := fun i n hn => ⟨by simp [turned]; omega, by simpa [turned] using h2, fun x hx => by
    rcases List.mem_or_eq_of_mem_set hx with h | rfl
    · exact h3 x h
    · exact hn⟩
  have hnd : ∀ k : Nat, ((g.nodes[k]?).getD default).ptrs.length ≤ 100000 ∧ ((g.nodes[k]?).getD default).data.length ≤ 100000 := fun k => by
    cases hk : g.nodes[k]? with
    | none => exact ⟨Nat.zero_le _, Nat.zero_le _⟩
    | some n => exact h3 n (List.mem_of_getElem? hk)
  unfold doR
  split
  · split
    · split
      · rename_i hs
        obtain ⟨s1, s2, s3, s4⟩ := shapeOk_iff.1 hs
        refine ⟨by simp; omega, by simp; omega, fun n hn => ?_⟩
        rcases List.mem_append.1 hn with h | h
        · exact h3 n h
        · simp at h; subst h
          simp [freshNd]; omega
      · exact hno
    · split
      · exact hroot _ _
      · split
        · exact hroot _ _
        · unfold slotR
          simp only
          generalize hn : (g.nodes[(rt g a.s).toNat]?).getD default = n
          have hn' : n.ptrs.length ≤ 100000 ∧ n.data.length ≤ 100000 := hn ▸ hnd _
          generalize (if a.kind = 3 ∨ a.kind = 5 then n.data.length else n.ptrs.length) = many
          split
          · exact hno
          · split
            · exact hno
            · split
              · exact hroot _ _
              · split
                · exact ⟨by simp; omega, h2, h3⟩
                · split
                  · exact hturn _ _ (by simpa using hn')
                  · exact hturn _ _ (by simpa using hn')
  · exact hno
def cG (g : Gr) : Gr := if right g = true then canon g else noGr
def cE (g : Gr) : Int := if right g = true then 0 else 1
theorem canonR_eq (g : Gr) : canonR g = .tup [grV (cG g), vi (cE g)] := by
  unfold canonR cG cE; split <;> rfl
theorem cG_sm {g : Gr} (h : g.sm) : (cG g).sm := by
  unfold cG
  split
  · rename_i hr; exact canon_sm h hr
  · exact ⟨by simp [noGr], by simp [noGr], by simp [noGr]⟩
def tellInv (t : St) : Prop := ∃ (G : List Gr) (i : Nat) (y0 y1 y2 y3 y4 y5 y6 y7 y10 y11 y12 y13 y14 y15 y16 y17 y18 y22 y23 : SV), G.length = 4 ∧ (∀ y ∈ G, y.sm) ∧ i ≤ 4 ∧
  t = [y0, y1, y2, y3, y4, y5, y6, y7, .v (.bool false), .v (.bool true), y10, y11, y12, y13, y14, y15, y16, y17, y18, .v (.sl (G.map grV)), .v (vi i), .v (vi 4), y22, y23, .v (.sl (G.map grV))]
def tellInv2 (G : List Gr) (g : Gr) (i : Nat) (t : St) : Prop := ∃ (j : Nat) (y0 y1 y2 y3 y4 y5 y6 y7 y10 y11 y12 y13 y14 y15 y16 y17 y18 y22 y25 y26 y27 y28 y29 y32 y33 : SV), j ≤ 4 ∧
  t = [y0, y1, y2, y3, y4, y5, y6, y7, .v (.bool false), .v (.bool true), y10, y11, y12, y13, y14, y15, y16, y17, y18, .v (.sl (G.map grV)), .v (vi i), .v (vi 4), y22, .m [.sl (g.nodes.map ndV), .sl (g.roots.map vi)], .v (.sl (G.map grV)),
    y25, y26, y27, y28, y29, .v (vi j), .v (vi 4), y32, y33, .v (.sl (G.map grV))]
theorem law3 {o : Gr} {l : List Nd} {roots n : List Int} {b v : Int} (hl : ∀ x ∈ l, ∀ p ∈ x.ptrs, Fit p) (hr : ∀ p ∈ roots, Fit p) (hb : Fit b) (hn : n.length = 5) (hnf : ∀ p ∈ n, Fit p) :
    VC Try.prog 3 false [grV o, .sl (l.map ndV), .sl (roots.map vi), vi b, .agg (n.map vi), vu v] (.bool true) := by
  refine vc_of_wp Try.func3 follows (by kernel_rfl) c3 rfl ?_
  match n, hn with
  | [n0, n1, n2, n3, n4], _ =>
  simp [p3]
  refine callW_of awake9_vc (by simp) ?_
  simp
  refine wpS_loop (fun t => ∃ (i : Nat), i ≤ o.nodes.length ∧ i ≤ 6 ∧ t = [.v (grV o), .v (.sl (l.map ndV)), .v (.sl (roots.map vi)), .v (vi b), .v (.agg [vi n0, vi n1, vi n2, vi n3, vi n4]), .v (vu v), .m [.sl (o.nodes.map ndV), .sl (o.roots.map vi)], .m [vi n0, vi n1, vi n2, vi n3, vi n4], .v (.bool false), .v (.bool true),
      .m [.sl ((o.nodes.map (ndV ∘ fewNd)).take i), .sl []], .v (vi i)]) (fun t => match get t 11 with | .v (.int _ i) => 6 - i.toNat | _ => 0) ?_ ?_
  · exact ⟨0, by simp, by simp, by simp⟩
  rintro t ⟨i, hi, hi6, rfl⟩
  by_cases h : i < o.nodes.length ∧ i < 6
  · obtain ⟨h1, h2⟩ := h
    have hx : o.nodes[i]? = some o.nodes[i] := List.getElem?_eq_getElem h1
    have hw := wrap_i ((i : Int) + 1) (by omega) (by omega)
    have h2' : (i : Int) < 6 := by omega
    generalize hnd : o.nodes[i] = x at hx
    have e1 : (if (6 : Int) < (x.ptrs.length : Int) then (6 : Int) else (x.ptrs.length : Int)) = ((min x.ptrs.length 6 : Nat) : Int) := by split <;> omega
    have e2 : (if (6 : Int) < (x.data.length : Int) then (6 : Int) else (x.data.length : Int)) = ((min x.data.length 6 : Nat) : Int) := by split <;> omega
    have e3 : min x.ptrs.length 6 ≤ x.ptrs.length := by omega
    have e4 : min x.data.length 6 ≤ x.data.length := by omega
    have s3 : sizeOk 1 (x.ptrs.map vi) = true := sizeOk_vi _
    have s4 : sizeOk 1 (x.data.map vu) = true := sizeOk_vi _
    simp [h1, h2', hnd, e1, e2, e3, e4, s3, s4, hw]
    refine ⟨by simp [lim]; omega, ⟨i + 1, by omega, by omega, ?_, by simp⟩, by omega⟩
    refine snoc_map hx ?_
    have t1 : x.ptrs.take (min x.ptrs.length 6) = x.ptrs.take 6 := by
      by_cases hd : x.ptrs.length ≤ 6
      · rw [List.take_of_length_le (by omega), List.take_of_length_le (by omega)]
      · congr 1; omega
    have t2 : x.data.take (min x.data.length 6) = x.data.take 6 := by
      by_cases hd : x.data.length ≤ 6
      · rw [List.take_of_length_le (by omega), List.take_of_length_le (by omega)]
      · congr 1; omega
    simp [fewNd, ndV, ← List.map_take, t1, t2]
  · have hfew : (o.nodes.map (ndV ∘ fewNd)).take i = (fewG o).nodes.map ndV := by
      simp only [fewG, List.map_map, List.map_take]
      by_cases h1 : i < o.nodes.length
      · have : i = 6 := by omega
        rw [this]
      · rw [List.take_of_length_le (by simp; omega), List.take_of_length_le (by simp; omega)]
    have e1 : (if (20 : Int) < (o.roots.length : Int) then (20 : Int) else (o.roots.length : Int)) = ((min o.roots.length 20 : Nat) : Int) := by split <;> omega
    have e2 : min o.roots.length 20 ≤ o.roots.length := by omega
    have s3 : sizeOk 1 (o.roots.map vi) = true := sizeOk_vi _
    have e4 : (o.roots.map vi).take (min o.roots.length 20) = (fewG o).roots.map vi := by
      simp only [fewG, List.map_take]
      by_cases hd : o.roots.length ≤ 20
      · rw [List.take_of_length_le (by simp; omega), List.take_of_length_le (by simp; omega)]
      · congr 1; omega
    have hcond : ∀ (A B : Prop), B → (if i < o.nodes.length then (if (i : Int) < 6 then A else B) else B) := fun A B hB => by
      by_cases h1 : i < o.nodes.length
      · rw [if_pos h1, if_neg (by omega)]; exact hB
      · rw [if_neg h1]; exact hB
    rw [hfew]
    have hi6' : i < o.nodes.length → ¬ ((i : Int) < 6) := fun h1 h2 => h ⟨h1, by omega⟩
    have hfs := few_sm o
    generalize fewG o = few at *
    have hgo := Graph_vc hl hr
    have hgr := mkG_right l roots
    have hgs := mkG_sm l roots
    have hgb := mkG_bounds l roots
    rw [← mkG_nodes l roots] at hgb
    generalize mkG l roots = g at *
    have hmv := fun more => Moved_vc (more := more) hgs hgr hb
    have hms := fun more => Moved_sm hgr (by omega) b more
    have hmb : ∀ more, (Moved g b more).nodes.length ≤ 99999 := fun more => by cases more <;> simp [Moved] <;> omega
    generalize hmore : decide (b.tmod 2 = 0) = more at *
    have hac := Act_vc (l := [n0, n1, n2, n3, n4]) (v := v) rfl hnf
    simp only [List.map_cons, List.map_nil] at hac
    have hxs := hms more
    have hmv := hmv more
    have hxb := hmb more
    generalize Moved g b more = x at *
    have hdo := refDo_vc (a := mkAc [n0, n1, n2, n3, n4] v) hxs
    have hds : (doR x (mkAc [n0, n1, n2, n3, n4] v)).2.1.sm := doR_sm ⟨hxb, hxs.2.1, hxs.2.2⟩
    generalize mkAc [n0, n1, n2, n3, n4] v = ac at *
    generalize hde : doR x ac = d at *
    obtain ⟨d1, d2, d3⟩ := d
    have hrest : ∀ (turned : Gr), turned.sm → ∀ G, G = [few, g, x, turned] → ∀ y ∈ G, y.sm := by
      rintro t ht G rfl y hy
      simp at hy
      rcases hy with rfl | rfl | rfl | rfl
      · exact hfs
      · exact hgs
      · exact hxs
      · exact ht
    by_cases h1 : i < o.nodes.length
    all_goals
      simp [h1, hi6', e1, e2, s3, e4]
      refine callW_of hgo (by simp) ?_
      simp [hmore]
      refine callW_of hmv (by simp) ?_
      simp
      refine callW_of hac (by simp) ?_
      simp
      refine callW_of hdo (by simp) ?_
      simp [doV]
      split
      all_goals
        refine wpS_loop tellInv (fun t => match get t 20 with | .v (.int _ i) => 4 - i.toNat | _ => 0) ?_ ?_
        · first
          | exact ⟨[few, g, x, d2], 0, _, _, _, _, _, _, _, _, _, _, _, _, _, _, _, _, _, _, _, rfl, hrest d2 hds _ rfl, by omega, rfl⟩
          | exact ⟨[few, g, x, x], 0, _, _, _, _, _, _, _, _, _, _, _, _, _, _, _, _, _, _, _, rfl, hrest x hxs _ rfl, by omega, rfl⟩
        rintro t ⟨G, i, y0, y1, y2, y3, y4, y5, y6, y7, y10, y11, y12, y13, y14, y15, y16, y17, y18, y22, y23, hG4, hGs, hi, rfl⟩
        by_cases h : i < 4
        · have hiG : i < G.length := by omega
          have hw := wrap_i ((i : Int) + 1) (by omega) (by omega)
          have h' : (i : Int) < 4 := by omega
          have hys := hGs _ (List.getElem_mem hiG)
          simp [h', hiG]
          generalize G[i] = y at *
          have hc1 := Canon_vc hys
          have hc2 := refCanon_vc hys
          rw [canonR_eq] at hc1 hc2
          refine callW_of hc1 (by simp) ?_
          simp
          refine callW_of hc2 (by simp) ?_
          simp
          refine callW_of (Order_vc hys) (by simp) ?_
          have hol : (orderR y).length ≤ 100000 := by
            unfold orderR; split
            · rename_i hr; have := (order_good hr).len; have := hys.1; omega
            · simp
          simp
          refine callW_of (refOrder_vc hys) (by simp) ?_
          simp
          refine callW_of (ints_vc hol) (by simp) ?_
          simp
          refine callW_of (Same_vc (cG_sm hys)) (by simp) ?_
          simp
          refine wpS_loop (tellInv2 G y i) (fun t => match get t 30 with | .v (.int _ i) => 4 - i.toNat | _ => 0) ?_ ?_
          · exact ⟨0, _, _, _, _, _, _, _, _, _, _, _, _, _, _, _, _, _, _, _, _, _, _, _, _, _, by omega, by simp [hG4]; repeat (first | exact rfl | constructor)⟩
          rintro t ⟨j, z0, z1, z2, z3, z4, z5, z6, z7, z10, z11, z12, z13, z14, z15, z16, z17, z18, z22, z25, z26, z27, z28, z29, z32, z33, hj, rfl⟩
          by_cases hj4 : j < 4
          · have hjG : j < G.length := by omega
            have hwj := wrap_i ((j : Int) + 1) (by omega) (by omega)
            have hj' : (j : Int) < 4 := by omega
            have hzs := hGs _ (List.getElem_mem hjG)
            simp [hj', hjG]
            generalize G[j] = z at *
            refine callW_of (Alike_vc hys hzs) (by simp) ?_
            simp
            refine callW_of (refAlike_vc hys hzs) (by simp) ?_
            simp [hwj]
            exact ⟨⟨j + 1, _, _, _, _, _, _, _, _, _, _, _, _, _, _, _, _, _, _, _, _, _, _, _, _, _, by omega, by simp; repeat (first | exact rfl | constructor)⟩, by omega⟩
          · have : j = 4 := by omega
            subst this
            simp [hw]
            exact ⟨⟨G, i + 1, _, _, _, _, _, _, _, _, _, _, _, _, _, _, _, _, _, _, _, hG4, hGs, by omega, by simp; repeat (first | exact rfl | constructor)⟩, by omega⟩
        · have : i = 4 := by omega
          subst this
          simp
end Vm
