/-
  Heaps that are made of raw numbers: their words.
-/
import Derived.Test.YtfplljcicihneaaBe
namespace Vm
open Go Go.Proofs
set_option linter.unusedSimpArgs false
set_option linter.unusedVariables false
set_option maxRecDepth 100000
set_option maxHeartbeats 1000000
@[simp] theorem szV_btV (b : Bt) : szV (btV b) 14 = some (btV b) := rfl
@[simp] theorem btV_cells (b : Bt) : (btV b).cells = btC b := rfl
@[simp] theorem fldV_btV (b : Bt) (i : Nat) : fldV (btV b) i = (btC b)[i]?.bind oneV := rfl
theorem packW_range (s p : Int) : 0 ≤ (packW s p).1 ∧ (packW s p).1 < 100000000 := by
  unfold packW
  split
  · rename_i h
    obtain ⟨h1, h2, h3, h4⟩ := shapeOk_iff.1 h
    simp only; omega
  · simp
theorem addrL_range (l : Ly) (hl : l.fits) (p a : Int) : 0 ≤ (addrL l p a).1 ∧ (addrL l p a).1 ≤ 9223372036854775807 := by
  unfold addrL
  split
  · simp
  · rename_i hr
    have hr' : rightL l = true := by simpa using hr
    split
    · simp
    · split
      · simp
      · have := fstL_range hr' p
        simp only; omega
theorem ptrTo_range {a : Int} : 0 ≤ (ptrTo a).1 ∧ (ptrTo a).1 < 18446744073709551616 := by
  unfold ptrTo
  split
  · simp
  · simp only; omega
/-- the pointer to a place -/
def refB (h : Hp) (p : Pl) : Int := if p.part = 0 then 0 else (ptrTo (addrL (layH h) p.part p.at_).1).1
theorem refB_range (h : Hp) (p : Pl) : U64 (refB h p) := by
  unfold refB
  split
  · exact ⟨by omega, by omega⟩
  · exact ptrTo_range
theorem refB_vc {b : Bt} (hb : (layH b.h).fits) {p : Pl} : VC Try.prog 87 false [btV b, plV p] (vu (refB b.h p)) := by
  refine vc_of_wp Try.func87 follows (by kernel_rfl) c87 rfl ?_
  by_cases h0 : p.part = 0
  · simp [p87, btC, refB, h0]
  · have hr := addrL_range (layH b.h) hb p.part p.at_
    simp [p87, btC, h0]
    refine callW_of (refLayout_vc (h := b.h)) (by simp [hpV]) ?_
    simp
    refine callW_of (refAddrL_vc hb (part := p.part) (at_ := p.at_)) (by simp) ?_
    simp
    refine callW_of (refPtrTo_vc (a := (addrL (layH b.h) p.part p.at_).1) ⟨hr.1, by omega⟩) (by simp) ?_
    simp [refB, h0]
/-- the word of a pointer to a node, where it stands at a place -/
def slotB (b : Bt) (p : Pl) (to tw : Int) : Int :=
  if to < 0 then 0 else if 2 < p.part then refB b.h ((b.old[to.toNat]?).getD ⟨0, 0⟩)
  else if p.part = 1 ∧ b.h.scan ≤ p.at_ ∧ (((b.here[to.toNat]?).getD ⟨0, 0⟩).part = 0 ∨ 0 < ((b.old[to.toNat]?).getD ⟨0, 0⟩).part ∧ tw % 2 = 0) then refB b.h ((b.old[to.toNat]?).getD ⟨0, 0⟩)
  else refB b.h ((b.here[to.toNat]?).getD ⟨0, 0⟩)
theorem slotB_range (b : Bt) (p : Pl) (to tw : Int) : U64 (slotB b p to tw) := by
  unfold slotB
  split
  · exact ⟨by omega, by omega⟩
  split
  · exact refB_range _ _
  split <;> exact refB_range _ _
theorem tmod2 (t : Int) : t.tmod 2 = 0 ↔ t % 2 = 0 := by
  rw [Int.tmod_eq_emod]
  split <;> omega
theorem slotB_vc {b : Bt} (hb : (layH b.h).fits) {p : Pl} {to tw : Int} (h1 : to < b.here.length) (h2 : to < b.old.length) : VC Try.prog 101 false [btV b, plV p, vi to, vi tw] (vu (slotB b p to tw)) := by
  refine vc_of_wp Try.func101 follows (by kernel_rfl) c101 rfl ?_
  by_cases h0 : to < 0
  · simp [p101, btC, slotB, h0]
  obtain ⟨t, rfl⟩ := Int.eq_ofNat_of_zero_le (show 0 ≤ to by omega)
  have g1 : b.here[t]? = some (b.here[t]'(by omega)) := List.getElem?_eq_getElem (by omega)
  have g2 : b.old[t]? = some (b.old[t]'(by omega)) := List.getElem?_eq_getElem (by omega)
  generalize b.here[t]'(by omega) = x at *
  generalize b.old[t]'(by omega) = y at *
  unfold slotB
  simp only [Int.toNat_natCast, g1, g2, Option.getD_some, if_neg h0]
  by_cases q1 : 2 < p.part
  · simp [p101, btC, q1, g2]
    refine callW_of (refB_vc hb (p := y)) (by simp [btV]) ?_
    simp
  have k1 := refB_vc hb (p := x)
  have k2 := refB_vc hb (p := y)
  by_cases q2 : p.part = 1
  · by_cases q3 : b.h.scan ≤ p.at_
    · by_cases q4 : x.part = 0
      · simp [p101, btC, q1, q2, q3, q4, g1, g2]
        refine callW_of k2 (by simp [btV]) ?_
        simp
      · by_cases q5 : 0 < y.part
        · by_cases q6 : tw % 2 = 0
          · have q6' := (tmod2 tw).2 q6
            simp [p101, btC, q1, q2, q3, q4, q5, q6, q6', g1, g2]
            refine callW_of k2 (by simp [btV]) ?_
            simp
          · have q6' := mt (tmod2 tw).1 q6
            simp [p101, btC, q1, q2, q3, q4, q5, q6, q6', g1, g2]
            refine callW_of k1 (by simp [btV]) ?_
            simp
        · simp [p101, btC, q1, q2, q3, q4, q5, g1, g2]
          refine callW_of k1 (by simp [btV]) ?_
          simp
    · simp [p101, btC, q1, q2, q3, g1, g2]
      refine callW_of k1 (by simp [btV]) ?_
      simp
  · simp [p101, btC, q1, q2, g1, g2]
    refine callW_of k1 (by simp [btV]) ?_
    simp
@[simp] theorem put_vu (x y : Int) : V.put (vu x) 0 [vu y] = vu y := rfl
theorem set_step {l pre : List Int} {m : Nat} (h : pre.length = m) (hm : m < l.length) (z : Int) : (pre ++ l.drop m).set m z = pre ++ [z] ++ l.drop (m + 1) := by
  subst h
  rw [List.set_append_right _ _ (Nat.le_refl _), Nat.sub_self, List.drop_eq_getElem_cons hm, List.set_cons_zero, List.append_assoc]
  rfl
/-- a part's words, of which a node's are laid at a place -/
def slotsB (b : Bt) (p : Pl) (a : Nat) (ps : List Int) (tw : Int) : List Int := (List.range ps.length).map fun i => slotB b ⟨p.part, ((a + 1 + i : Nat) : Int)⟩ ((ps[i]?).getD 0) (IntKind.i64.wrap (tw + i))
def layL (b : Bt) (p : Pl) (a : Nat) (n : Nd) (tw : Int) : List Int :=
  let l := partH b.h p.part
  l.take a ++ [(packW ((n.ptrs.length : Int) + n.data.length) n.ptrs.length).1] ++ slotsB b p a n.ptrs tw ++ n.data ++ l.drop (a + sizN n)
def layB (b : Bt) (p : Pl) (n : Nd) (tw : Int) : Bt := { b with h := withH b.h p.part (layL b p p.at_.toNat n tw) }
theorem lay_vc {b : Bt} (hb : (layH b.h).fits) {p : Pl} {n : Nd} {tw : Int} {a : Nat} (ha : p.at_ = a) (hlen : (partH b.h p.part).length ≤ 1000000) (hfit : a + sizN n ≤ (partH b.h p.part).length)
    (h1 : ∀ q ∈ n.ptrs, q < b.here.length ∧ q < b.old.length) : VC Try.prog 86 false [btV b, plV p, ndV n, vi tw] (btV (layB b p n tw)) := by
  refine vc_of_wp Try.func86 follows (by kernel_rfl) c86 rfl ?_
  have hlim : (partH b.h p.part).length ≤ lim := by simp [lim]; omega
  have w1 := wrap_i ((n.ptrs.length : Int) + n.data.length) (by unfold sizN at hfit; omega) (by unfold sizN at hfit; omega)
  unfold layB
  rw [show p.at_.toNat = a by omega]
  simp [p86, btC]
  refine callW_of (Part_vc (h := b.h) (n := p.part)) (by simp [hpV]) ?_
  simp [hlim, w1]
  refine callW_of (refPack_vc (s := (n.ptrs.length : Int) + n.data.length) (p := n.ptrs.length)) (by simp) ?_
  have hpl : a < (partH b.h p.part).length := by unfold sizN at hfit; omega
  simp [ha, hpl]
  generalize hl0 : partH b.h p.part = l at *
  generalize hhd : (packW ((n.ptrs.length : Int) + n.data.length) n.ptrs.length).1 = hd at *
  have hset0 : (l.map vu).set a (vu hd) = ((l.take a ++ [hd]) ++ l.drop (a + 1)).map vu := by
    rw [← List.map_set]
    congr 1
    have := set_step (l := l) (pre := l.take a) (m := a) (by simp; omega) hpl hd
    rw [List.take_append_drop] at this
    exact this
  simp only [put_vu, hset0]
  have hw1 := wrap_i ((a : Int) + 1) (by omega) (by omega)
  have hnp : n.ptrs.length ≤ l.length := by unfold sizN at hfit; omega
  have hsl : (slotsB b p a n.ptrs tw).length = n.ptrs.length := by simp [slotsB]
  refine wpS_for 11 n.ptrs.length (fun k => [(8, .v (.sl (((l.take a ++ [hd] ++ (slotsB b p a n.ptrs tw).take k) ++ l.drop (a + 1 + k)).map vu))), (11, .v (vi k))]) (fun _ => True) (by simp) (fun i => by simp) trivial ?_
  rintro k hk -
  have hwk := wrap_i ((k : Int) + 1) (by omega) (by omega)
  have hw2 := wrap_i ((a : Int) + 1 + k) (by omega) (by omega)
  by_cases hkl : k < n.ptrs.length
  · have hq : n.ptrs[k]? = some n.ptrs[k] := List.getElem?_eq_getElem hkl
    obtain ⟨q1, q2⟩ := h1 _ (List.getElem_mem hkl)
    have hslot := slotB_vc hb (p := ⟨p.part, ((a + 1 + k : Nat) : Int)⟩) (to := n.ptrs[k]) (tw := IntKind.i64.wrap (tw + k)) q1 q2
    have hsk : (slotsB b p a n.ptrs tw)[k]? = some (slotB b ⟨p.part, ((a + 1 + k : Nat) : Int)⟩ n.ptrs[k] (IntKind.i64.wrap (tw + k))) := by
      simp [slotsB, hkl]
    generalize n.ptrs[k] = q at *
    generalize slotB b ⟨p.part, ((a + 1 + k : Nat) : Int)⟩ q (IntKind.i64.wrap (tw + k)) = z at *
    have htk : (slotsB b p a n.ptrs tw).take (k + 1) = (slotsB b p a n.ptrs tw).take k ++ [z] := by rw [List.take_add_one, hsk]; rfl
    have hpre : (l.take a ++ [hd] ++ (slotsB b p a n.ptrs tw).take k).length = a + 1 + k := by simp [hsl]; omega
    have hm : a + 1 + k < l.length := by unfold sizN at hfit; omega
    have hst := set_step (l := l) hpre hm z
    generalize hpp : l.take a ++ [hd] ++ (slotsB b p a n.ptrs tw).take k = pre at *
    have hall : ∃ x, ((pre ++ l.drop (a + 1 + k)).map vu)[a + 1 + k]? = some (vu x) := by
      refine ⟨l[a + 1 + k], ?_⟩
      rw [List.getElem?_map, List.getElem?_append_right (by omega), hpre, Nat.sub_self, List.drop_eq_getElem_cons hm]
      rfl
    have hset : ((pre ++ l.drop (a + 1 + k)).map vu).set (a + 1 + k) (vu z) = (pre ++ [z] ++ l.drop (a + 1 + (k + 1))).map vu := by
      rw [← List.map_set, hst]; rfl
    obtain ⟨m, hmn⟩ : ∃ m : Nat, a + 1 + k = m := ⟨_, rfl⟩
    have hmi : (a : Int) + 1 + k = m := by omega
    have hwm := wrap_i (m : Int) (by omega) (by omega)
    rw [show a + 1 + (k + 1) = a + 1 + k + 1 by omega] at hset ⊢
    rw [hmn] at hall hset hslot ⊢
    generalize hLL : (pre ++ l.drop m).map vu = LL at hall hset ⊢
    rw [htk]
    obtain ⟨y, hy⟩ := hall
    simp [hkl, hq, at_of hq, hw1, hw2, hmi, hwm]
    refine callW_of hslot (by simp [btV]) ?_
    simp [hy, hset, hwk, hkl, hw1, hmi, hwm]
    rw [← hpp]
    simp
  · have : k = n.ptrs.length := by omega
    subst this
    rw [show (slotsB b p a n.ptrs tw).take n.ptrs.length = slotsB b p a n.ptrs tw from List.take_of_length_le (by omega)]
    have hw3 := wrap_i ((a : Int) + 1 + n.ptrs.length) (by omega) (by omega)
    have hw4 : ∀ j : Nat, j ≤ 1000 + n.data.length → IntKind.i64.wrap ((a : Int) + 1 + n.ptrs.length + j) = (a : Int) + 1 + n.ptrs.length + j := fun j hj => wrap_i _ (by omega) (by unfold sizN at hfit; omega)
    generalize hsp : l.take a ++ [hd] ++ slotsB b p a n.ptrs tw = sp at *
    have hspl : sp.length = a + 1 + n.ptrs.length := by rw [← hsp]; simp [hsl]; omega
    simp
    refine wpS_for 13 n.data.length (fun k => [(8, .v (.sl (((sp ++ n.data.take k) ++ l.drop (a + 1 + n.ptrs.length + k)).map vu))), (13, .v (vi k))]) (fun _ => True) (by simp) (fun i => by simp) trivial ?_
    rintro k hk -
    have hwk := wrap_i ((k : Int) + 1) (by omega) (by unfold sizN at hfit; omega)
    by_cases hkl : k < n.data.length
    · have hq : n.data[k]? = some n.data[k] := List.getElem?_eq_getElem hkl
      generalize n.data[k] = z at *
      have htk : n.data.take (k + 1) = n.data.take k ++ [z] := by rw [List.take_add_one, hq]; rfl
      have hpre : (sp ++ n.data.take k).length = a + 1 + n.ptrs.length + k := by simp [hspl]; omega
      have hm : a + 1 + n.ptrs.length + k < l.length := by unfold sizN at hfit; omega
      have hst := set_step (l := l) hpre hm z
      generalize hpp : sp ++ n.data.take k = pre at *
      have hall : ∃ x, ((pre ++ l.drop (a + 1 + n.ptrs.length + k)).map vu)[a + 1 + n.ptrs.length + k]? = some (vu x) := by
        refine ⟨l[a + 1 + n.ptrs.length + k], ?_⟩
        rw [List.getElem?_map, List.getElem?_append_right (by omega), hpre, Nat.sub_self, List.drop_eq_getElem_cons hm]
        rfl
      have hset : ((pre ++ l.drop (a + 1 + n.ptrs.length + k)).map vu).set (a + 1 + n.ptrs.length + k) (vu z) = (pre ++ [z] ++ l.drop (a + 1 + n.ptrs.length + k + 1)).map vu := by
        rw [← List.map_set, hst]
      rw [show a + 1 + n.ptrs.length + (k + 1) = a + 1 + n.ptrs.length + k + 1 by omega]
      have hw5 := hw4 k (by omega)
      obtain ⟨m, hmn⟩ : ∃ m : Nat, a + 1 + n.ptrs.length + k = m := ⟨_, rfl⟩
      have hmi : (a : Int) + 1 + n.ptrs.length + k = m := by omega
      have hwm := wrap_i (m : Int) (by omega) (by omega)
      rw [hmn] at hall hset ⊢
      generalize hLL : (pre ++ l.drop m).map vu = LL at hall hset ⊢
      rw [htk]
      obtain ⟨y, hy⟩ := hall
      simp [hkl, hq, at_of hq, hw1, hw3, hw5, hmi, hwm, hy, hset, hwk]
      rw [← hpp]
      simp
    · have : k = n.data.length := by omega
      subst this
      rw [show n.data.take n.data.length = n.data from List.take_length]
      have hwith := With_vc (h := b.h) (n := p.part) (l := sp ++ n.data ++ l.drop (a + 1 + n.ptrs.length + n.data.length))
      have hlay : layL b p a n tw = sp ++ n.data ++ l.drop (a + 1 + n.ptrs.length + n.data.length) := by
        unfold layL
        rw [hl0, hhd]
        dsimp only
        rw [hsp, show a + sizN n = a + 1 + n.ptrs.length + n.data.length by unfold sizN; omega]
      rw [hlay]
      generalize sp ++ n.data ++ l.drop (a + 1 + n.ptrs.length + n.data.length) = fin at *
      simp
      refine callW_of hwith (by simp [hpV]) ?_
      simp [btV]
end Vm
