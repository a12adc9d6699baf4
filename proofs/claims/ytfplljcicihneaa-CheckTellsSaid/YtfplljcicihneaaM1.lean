/-
  The checker's state, and maps by address; the small functions of package check.
-/
import Derived.Test.YtfplljcicihneaaCi
import Derived.Test.YtfplljcicihneaaHj
namespace Vm
open Go Go.Proofs
set_option linter.unusedSimpArgs false
set_option linter.unusedVariables false
set_option maxRecDepth 100000
set_option maxHeartbeats 1000000
/-! ### Maps by address -/
def putA {α : Type} (l : List (Int × α)) (k : Int) (v : α) : List (Int × α) := match l.findIdx? (·.1 == k) with
  | some i => l.set i (k, v)
  | none => l ++ [(k, v)]
def getA {α : Type} (l : List (Int × α)) (k : Int) : Option α := (l.find? (·.1 == k)).map (·.2)
def mpA {α : Type} (f : α → V) (l : List (Int × α)) : V := .mp 0 (l.map fun x => vu x.1) (l.map fun x => f x.2)
theorem findV_vu {α : Type} {k : Int} : ∀ {l : List (Int × α)}, findV (vu k) (l.map fun x => vu x.1) = some (l.findIdx? (·.1 == k))
  | [] => rfl
  | y :: l => by
    simp only [List.map_cons, findV, keyEq, if_true, List.findIdx?_cons]
    by_cases h : k = y.1
    · simp [h]
    · have h2 : (k == y.1) = false := by simpa using h
      have h3 : (y.1 == k) = false := by simpa using Ne.symm h
      simp [h2, h3, findV_vu]
theorem find_of_idx {α : Type} {p : α → Bool} : ∀ {l : List α}, l.find? p = (l.findIdx? p).bind fun i => l[i]?
  | [] => rfl
  | x :: l => by
    rw [List.find?_cons, List.findIdx?_cons]
    cases h : p x
    · simp only [Bool.false_eq_true, if_false]
      rw [find_of_idx (l := l)]
      cases l.findIdx? p <;> simp
    · simp
theorem lkV_A {α : Type} {f : α → V} {l : List (Int × α)} {k : Int} {z : V} {ok : Bool} : lkV (.i .u64) (mpA f l) (vu k) z ok = match getA l k with
    | some x => some (if ok then .tup [f x, .bool true] else f x)
    | none => some (if ok then .tup [z, .bool false] else z) := by
  unfold lkV mpA getA
  simp only [isK, decide_true, Bool.true_eq_false, if_false, findV_vu, find_of_idx]
  cases h : l.findIdx? (·.1 == k) with
  | none => rfl
  | some i =>
    have hlt : i < l.length := (List.findIdx?_eq_some_iff_getElem.1 h).1
    simp [hlt]
theorem mputV_A {α : Type} {f : α → V} {l : List (Int × α)} {k : Int} {x : α} : mputV (.i .u64) (mpA f l) (vu k) (f x) = some (mpA f (putA l k x)) := by
  unfold mputV mpA putA
  simp only [isK, decide_true, Bool.true_eq_false, if_false, findV_vu]
  cases h : l.findIdx? (·.1 == k) with
  | none => simp
  | some i =>
    have hh := List.findIdx?_eq_some_iff_getElem.1 h
    obtain ⟨hlt, hk, _⟩ := hh
    have hk' : (l[i]).1 = k := by simpa using hk
    simp only [Option.some.injEq, V.mp.injEq, true_and]
    constructor
    · rw [List.map_set]
      apply List.ext_getElem?
      intro j
      rw [List.getElem?_set]
      split
      · rename_i e
        subst e
        simp [hlt, hk']
      · rfl
    · rw [List.map_set]
@[simp] theorem oneV_A {α : Type} (f : α → V) (l : List (Int × α)) : oneV (mpA f l) = some (mpA f l) := rfl
@[simp] theorem cells_A {α : Type} (f : α → V) (l : List (Int × α)) : (mpA f l).cells = [mpA f l] := rfl
@[simp] theorem one_A {α : Type} (f : α → V) (l : List (Int × α)) : (mpA f l).one = true := rfl
@[simp] theorem mlen_A {α : Type} (f : α → V) (l : List (Int × α)) : mlenV (mpA f l) = some (vi l.length) := by simp [mpA]
theorem getA_put {α : Type} {l : List (Int × α)} {k j : Int} {x : α} : getA (putA l k x) j = if k = j then some x else getA l j := by
  unfold getA putA
  cases h : l.findIdx? (·.1 == k) with
  | none =>
    have hn : ∀ y ∈ l, ¬ y.1 = k := by
      intro y hy e
      have := List.findIdx?_eq_none_iff.1 h y hy
      simp [e] at this
    simp only [List.find?_append]
    by_cases e : k = j
    · subst e
      have : l.find? (·.1 == k) = none := by
        rw [List.find?_eq_none]
        intro y hy
        simpa using hn y hy
      simp [this]
    · have h3 : (k == j) = false := by simpa using e
      simp [e, h3]
  | some i =>
    obtain ⟨hlt, hk, hmin⟩ := List.findIdx?_eq_some_iff_getElem.1 h
    have hk' : (l[i]).1 = k := by simpa using hk
    simp only
    by_cases e : k = j
    · subst e
      rw [if_pos rfl, find_of_idx]
      have : (l.set i (k, x)).findIdx? (·.1 == k) = some i := by
        rw [List.findIdx?_eq_some_iff_getElem]
        refine ⟨by simpa using hlt, by simp, ?_⟩
        intro q hq
        rw [List.getElem_set_ne (by omega)]
        exact hmin q hq
      rw [this]
      simp [hlt]
    · rw [if_neg e, find_of_idx, find_of_idx]
      have : (l.set i (k, x)).findIdx? (·.1 == j) = l.findIdx? (·.1 == j) := by
        apply Option.ext
        intro q
        rw [List.findIdx?_eq_some_iff_getElem, List.findIdx?_eq_some_iff_getElem]
        have hj : ((k, x).1 == j) = false := by simpa using e
        have hj' : ((l[i]).1 == j) = false := by rw [hk']; simpa using e
        constructor
        · rintro ⟨h1, h2, h3⟩
          have h1' : q < l.length := by simpa using h1
          by_cases eq : q = i
          · subst eq; simp at h2; exact (e h2).elim
          · rw [List.getElem_set_ne (Ne.symm eq)] at h2
            refine ⟨h1', h2, fun r hr => ?_⟩
            by_cases er : r = i
            · subst er; simp [hj']
            · have := h3 r hr
              rw [List.getElem_set_ne (Ne.symm er)] at this
              exact this
        · rintro ⟨h1, h2, h3⟩
          by_cases eq : q = i
          · subst eq; rw [hj'] at h2; cases h2
          · refine ⟨by simpa using h1, by rw [List.getElem_set_ne (Ne.symm eq)]; exact h2, fun r hr => ?_⟩
            by_cases er : r = i
            · subst er; simp [hj]
            · rw [List.getElem_set_ne (Ne.symm er)]; exact h3 r hr
      rw [this]
      cases hq : l.findIdx? (·.1 == j) with
      | none => rfl
      | some q =>
        obtain ⟨h1, h2, _⟩ := List.findIdx?_eq_some_iff_getElem.1 hq
        have : q ≠ i := by
          intro eq; subst eq
          rw [hk'] at h2
          exact e (by simpa using h2)
        simp [List.getElem?_set_ne (Ne.symm this)]
theorem putA_len {α : Type} {l : List (Int × α)} {k : Int} {x : α} : (putA l k x).length ≤ l.length + 1 := by
  unfold putA
  split <;> simp
/-! ### The state -/
structure Ck where
  h : Hp
  o1 : List Ob
  o2 : List Ob
  o3 : List Ob
  o4 : List Ob
  pm : List (Int × Int)
  lm : List (Int × (Int × Int))
def Ck.obs (s : Ck) (k : Int) : List Ob := if k = 1 then s.o1 else if k = 2 then s.o2 else if k = 3 then s.o3 else s.o4
def ckL (s : Ck) : List V := [vu s.h.base, vi s.h.cap, vi s.h.to, .bool s.h.cycle, vi s.h.scan, .sl (s.h.low.map vu), .sl (s.h.high.map vu), .sl (s.h.old.map vu), .sl (s.h.far.map vu), .sl (s.h.roots.map vu),
  vu s.h.base, vi s.h.cap, vi s.h.to, vi s.h.low.length, vi s.h.high.length, vi s.h.old.length, vi s.h.far.length,
  .sl (s.o1.map obV), .sl (s.o2.map obV), .sl (s.o3.map obV), .sl (s.o4.map obV), mpA vi s.pm, mpA shP s.lm]
def ckP (s : Ck) : V := .ptr (ckL s)
theorem w64_0 : IntKind.i64.wrap 0 = 0 := by decide
theorem w64_1 : IntKind.i64.wrap 1 = 1 := by decide
theorem w64_2 : IntKind.i64.wrap 2 = 2 := by decide
theorem w64_3 : IntKind.i64.wrap 3 = 3 := by decide
theorem words_vc {s : Ck} {k : Int} (hk : 1 ≤ k ∧ k ≤ 4) : VC Try.prog 113 false [ckP s, vi k] (.sl ((partH s.h k).map vu)) := by
  refine vc_of_wp Try.func113 follows (by kernel_rfl) c113 rfl ?_
  have : k = 1 ∨ k = 2 ∨ k = 3 ∨ k = 4 := by omega
  rcases this with rfl | rfl | rfl | rfl <;> simp [p113, ckP, ckL, partH, aiV, w64_0, w64_1, w64_2, w64_3]
/-- does a word point to an object of the parts from one to another? -/
def pointsR (s : Ck) (w first last : Int) : Bool := decide (w = 0) || (decide ((adr w).2 = 0) && match getA s.pm (adr w).1 with
  | some k => decide (first ≤ k) && decide (k ≤ last)
  | none => false)
theorem points_vc {s : Ck} {w first last : Int} (hw : U64 w) : VC Try.prog 117 false [ckP s, vu w, vi first, vi last] (.bool (pointsR s w first last)) := by
  refine vc_of_wp Try.func117 follows (by kernel_rfl) c117 rfl ?_
  unfold pointsR
  by_cases h0 : w = 0
  · simp [p117, h0]
  simp [p117, h0, ckP, ckL]
  refine callW_of (adr_vc hw) (by simp) ?_
  by_cases h1 : (adr w).2 = 0
  case neg => simp [h1]
  simp [h1, lkV_A]
  cases hg : getA s.pm (adr w).1 with
  | none => simp
  | some k =>
    by_cases h2 : first ≤ k
    · by_cases h3 : k ≤ last <;> simp [h2, h3]
    · simp [h2]
/-- a part's objects taken up: their addresses, and, of Low, their shapes -/
def notePm (h : Hp) (k : Int) : List (Int × Int) → List Ob → List (Int × Int)
  | m, [] => m
  | m, o :: l => notePm h k (putA m (addrL (layH h) k o.at_).1 k) l
def noteLm (h : Hp) (k : Int) : List (Int × (Int × Int)) → List Ob → List (Int × (Int × Int))
  | m, [] => m
  | m, o :: l => noteLm h k (if k = 1 then putA m (addrL (layH h) k o.at_).1 (o.size, o.ptrs) else m) l
def Ck.put (s : Ck) (k : Int) (l : List Ob) : Ck := if k = 1 then { s with o1 := l } else if k = 2 then { s with o2 := l } else if k = 3 then { s with o3 := l } else { s with o4 := l }
def noteS (s : Ck) (k : Int) (l : List Ob) : Ck := { s.put k l with pm := notePm s.h k s.pm l, lm := noteLm s.h k s.lm l }
theorem notePm_take {h : Hp} {k : Int} : ∀ {l : List Ob} {i : Nat} {o : Ob} {m : List (Int × Int)}, l[i]? = some o → notePm h k m (l.take (i + 1)) = putA (notePm h k m (l.take i)) (addrL (layH h) k o.at_).1 k
  | [], _, _, _, h => by simp at h
  | x :: l, 0, o, m, h => by simp at h; subst h; simp [notePm]
  | x :: l, i + 1, o, m, h => by
    simp only [List.take_succ_cons, notePm]
    exact notePm_take (by simpa using h)
theorem noteLm_take {h : Hp} {k : Int} : ∀ {l : List Ob} {i : Nat} {o : Ob} {m : List (Int × (Int × Int))}, l[i]? = some o → noteLm h k m (l.take (i + 1)) = if k = 1 then putA (noteLm h k m (l.take i)) (addrL (layH h) k o.at_).1 (o.size, o.ptrs) else noteLm h k m (l.take i)
  | [], _, _, _, h => by simp at h
  | x :: l, 0, o, m, h => by simp at h; subst h; simp [noteLm]
  | x :: l, i + 1, o, m, h => by
    simp only [List.take_succ_cons, noteLm]
    exact noteLm_take (by simpa using h)
abbrev ckK : List CK := [.fz, .fz, .fz, .fz, .fz, .fz, .fz, .fz, .fz, .fz, .fz, .fz, .fz, .fz, .fz, .fz, .fz, .fz, .fz, .fz, .fz, .own 119, .own 120]
@[simp] theorem put_h (s : Ck) (k : Int) (l : List Ob) : (s.put k l).h = s.h := by
  unfold Ck.put
  split
  · rfl
  split
  · rfl
  split <;> rfl
theorem mputV_i {l : List (Int × Int)} {k x : Int} : mputV (.i .u64) (mpA vi l) (vu k) (vi x) = some (mpA vi (putA l k x)) := mputV_A
theorem mputV_sh {l : List (Int × (Int × Int))} {k a b : Int} : mputV (.i .u64) (mpA shP l) (vu k) (.agg [vi a, vi b]) = some (mpA shP (putA l k (a, b))) := mputV_A (f := shP) (x := (a, b))
theorem note_vcm {s : Ck} (hh : s.h.ok) {k : Int} (hk : 1 ≤ k ∧ k ≤ 4) {l : List Ob} (hl : l.length ≤ 1000000) : VCM Try.prog 116 [.mem ckK, .fz, .fz] [.agg (ckL s), vi k, .sl (l.map obV)] (.tup [.tup [], .agg (ckL (noteS s k l))]) := by
  refine vcm_of_wp Try.func116 follows (by kernel_rfl) c116 (by kernel_rfl) ?_
  have k4 : k = 1 ∨ k = 2 ∨ k = 3 ∨ k = 4 := by omega
  have hlim : l.length ≤ lim := by unfold lim; omega
  have h0 : ∀ k, ({ s.put k l with pm := s.pm, lm := s.lm } : Ck) = s.put k l := by
    intro k
    unfold Ck.put
    split
    · rfl
    split
    · rfl
    split <;> rfl
  have ka := fun (k at_ : Int) => addrL_vc hh.lay (part := k) (at_ := at_)
  unfold layH lyV at ka
  rcases k4 with rfl | rfl | rfl | rfl
  · simp [p116, ckL, aiV, aputV, w64_0, w64_1, w64_2, w64_3, setCells]
    refine wpS_for 3 l.length (fun i => [(0, .m (ckL { s.put 1 l with pm := notePm s.h 1 s.pm (l.take i), lm := noteLm s.h 1 s.lm (l.take i) })), (3, .v (vi i))]) (fun _ => True) (by simp [ckL, Ck.put, notePm, noteLm]) (by simp) trivial ?_
    intro i hi _
    have hwi := wrap_i ((i : Int) + 1) (by omega) (by omega)
    by_cases hlt : i < l.length
    · have hx : l[i]? = some l[i] := List.getElem?_eq_getElem hlt
      have e1 := notePm_take (h := s.h) (k := 1) (m := s.pm) hx
      have e2 := noteLm_take (h := s.h) (k := 1) (m := s.lm) hx
      have ko := ka 1 (l[i]).at_
      simp [hlt, hx, hwi, ckL, idxV]
      refine callW_of ko (by simp) ?_
      simp [mputV_i, mputV_sh, e1, e2, hwi, hlt]
      first | done | rfl | exact ⟨rfl, rfl⟩
    · have : i = l.length := by omega
      subst this
      simp [ckL, noteS, List.take_of_length_le]
  · simp [p116, ckL, aiV, aputV, w64_0, w64_1, w64_2, w64_3, setCells]
    refine wpS_for 3 l.length (fun i => [(0, .m (ckL { s.put 2 l with pm := notePm s.h 2 s.pm (l.take i), lm := noteLm s.h 2 s.lm (l.take i) })), (3, .v (vi i))]) (fun _ => True) (by simp [ckL, Ck.put, notePm, noteLm]) (by simp) trivial ?_
    intro i hi _
    have hwi := wrap_i ((i : Int) + 1) (by omega) (by omega)
    by_cases hlt : i < l.length
    · have hx : l[i]? = some l[i] := List.getElem?_eq_getElem hlt
      have e1 := notePm_take (h := s.h) (k := 2) (m := s.pm) hx
      have e2 := noteLm_take (h := s.h) (k := 2) (m := s.lm) hx
      have ko := ka 2 (l[i]).at_
      simp [hlt, hx, hwi, ckL, idxV]
      refine callW_of ko (by simp) ?_
      simp [mputV_i, mputV_sh, e1, e2, hwi, hlt]
      first | done | rfl | exact ⟨rfl, rfl⟩
    · have : i = l.length := by omega
      subst this
      simp [ckL, noteS, List.take_of_length_le]
  · simp [p116, ckL, aiV, aputV, w64_0, w64_1, w64_2, w64_3, setCells]
    refine wpS_for 3 l.length (fun i => [(0, .m (ckL { s.put 3 l with pm := notePm s.h 3 s.pm (l.take i), lm := noteLm s.h 3 s.lm (l.take i) })), (3, .v (vi i))]) (fun _ => True) (by simp [ckL, Ck.put, notePm, noteLm]) (by simp) trivial ?_
    intro i hi _
    have hwi := wrap_i ((i : Int) + 1) (by omega) (by omega)
    by_cases hlt : i < l.length
    · have hx : l[i]? = some l[i] := List.getElem?_eq_getElem hlt
      have e1 := notePm_take (h := s.h) (k := 3) (m := s.pm) hx
      have e2 := noteLm_take (h := s.h) (k := 3) (m := s.lm) hx
      have ko := ka 3 (l[i]).at_
      simp [hlt, hx, hwi, ckL, idxV]
      refine callW_of ko (by simp) ?_
      simp [mputV_i, mputV_sh, e1, e2, hwi, hlt]
      first | done | rfl | exact ⟨rfl, rfl⟩
    · have : i = l.length := by omega
      subst this
      simp [ckL, noteS, List.take_of_length_le]
  · simp [p116, ckL, aiV, aputV, w64_0, w64_1, w64_2, w64_3, setCells]
    refine wpS_for 3 l.length (fun i => [(0, .m (ckL { s.put 4 l with pm := notePm s.h 4 s.pm (l.take i), lm := noteLm s.h 4 s.lm (l.take i) })), (3, .v (vi i))]) (fun _ => True) (by simp [ckL, Ck.put, notePm, noteLm]) (by simp) trivial ?_
    intro i hi _
    have hwi := wrap_i ((i : Int) + 1) (by omega) (by omega)
    by_cases hlt : i < l.length
    · have hx : l[i]? = some l[i] := List.getElem?_eq_getElem hlt
      have e1 := notePm_take (h := s.h) (k := 4) (m := s.pm) hx
      have e2 := noteLm_take (h := s.h) (k := 4) (m := s.lm) hx
      have ko := ka 4 (l[i]).at_
      simp [hlt, hx, hwi, ckL, idxV]
      refine callW_of ko (by simp) ?_
      simp [mputV_i, mputV_sh, e1, e2, hwi, hlt]
      first | done | rfl | exact ⟨rfl, rfl⟩
    · have : i = l.length := by omega
      subst this
      simp [ckL, noteS, List.take_of_length_le]
end Vm
/-
  The checker's rules on pointers: functions handed on to pointers.
-/
namespace Vm
open Go Go.Proofs
set_option linter.unusedSimpArgs false
set_option linter.unusedVariables false
set_option maxRecDepth 100000
set_option maxHeartbeats 1000000
/-- a variable that holds the state's pointer -/
def boxP (s : Ck) : V := .ptr [ckP s]
theorem settled1_vc {s : Ck} {a w : Int} (hw : U64 w) : VC Try.prog 119 false [vi a, vu w, boxP s] (.bool (pointsR s w 1 2)) := by
  refine vc_of_wp Try.func119 follows (by kernel_rfl) c119 rfl ?_
  have k := points_vc (s := s) (first := 1) (last := 2) hw
  unfold boxP ckP at *
  simp [p119, oneV, V.one]
  refine callW_of k (by simp) ?_
  simp
theorem settled2_vc {s : Ck} {a w : Int} (hw : U64 w) : VC Try.prog 120 false [vi a, vu w, boxP s] (.bool (decide (s.h.scan ≤ a) || pointsR s w 1 2)) := by
  refine vc_of_wp Try.func120 follows (by kernel_rfl) c120 rfl ?_
  have k := points_vc (s := s) (first := 1) (last := 2) hw
  unfold boxP ckP at *
  by_cases h : s.h.scan ≤ a
  · simp [p120, oneV, V.one, ckL, h]
  · simp [p120, oneV, V.one, ckL, h]
    refine callW_of k (by simp [ckL]) ?_
    simp [h]
theorem unscanned1_vc {s : Ck} {a w : Int} (hw : U64 w) : VC Try.prog 121 false [vi a, vu w, boxP s] (.bool (decide (a < s.h.scan) || pointsR s w 1 4)) := by
  refine vc_of_wp Try.func121 follows (by kernel_rfl) c121 rfl ?_
  have k := points_vc (s := s) (first := 1) (last := 4) hw
  unfold boxP ckP at *
  by_cases h : a < s.h.scan
  · simp [p121, oneV, V.one, ckL, h]
  · simp [p121, oneV, V.one, ckL, h]
    refine callW_of k (by simp [ckL]) ?_
    simp [h]
theorem left1_vc {s : Ck} {a w : Int} (hw : U64 w) : VC Try.prog 122 false [vi a, vu w, boxP s] (.bool (pointsR s w 3 4)) := by
  refine vc_of_wp Try.func122 follows (by kernel_rfl) c122 rfl ?_
  have k := points_vc (s := s) (first := 3) (last := 4) hw
  unfold boxP ckP at *
  simp [p122, oneV, V.one]
  refine callW_of k (by simp) ?_
  simp
/-- what the state's lists are -/
structure Ck.ok (s : Ck) : Prop where
  h : s.h.ok
  ob : ∀ k, ∀ o ∈ s.obs k, ObIn (partH s.h k).length o ∧ U64 o.target
  len : ∀ k, (s.obs k).length ≤ 1000000
def wordAt (ws : List Int) (k : Nat) : Int := (ws[k]?).getD 0
def obQ (s : Ck) (k : Int) (q : Int → Int → Bool) (o : Ob) : Bool := o.gone || (List.range o.ptrs.toNat).all fun j => q ((o.at_.toNat + 1 + j : Nat) : Int) (wordAt (partH s.h k) (o.at_.toNat + 1 + j))
def ptrsQ (s : Ck) (k : Int) (q : Int → Int → Bool) : Bool := (s.obs k).all (obQ s k q)
theorem pointersQ_vc {s : Ck} (hs : s.ok) {k : Int} (hk : 1 ≤ k ∧ k ≤ 4) {f : FuncId} {cs : List V} {q : Int → Int → Bool} (hq : ∀ a w, U64 w → VC Try.prog f false ([vi a, vu w] ++ cs) (.bool (q a w))) :
    VC Try.prog 118 false [ckP s, vi k, .clo f cs] (.bool (ptrsQ s k q)) := by
  refine vc_of_wp Try.func118 follows (by kernel_rfl) c118 rfl ?_
  simp [-List.all_eq_true, -List.all_eq_false, p118]
  refine callW_of (words_vc hk) (by simp) ?_
  have hpt : fldV (.agg [.sl (s.o1.map obV), .sl (s.o2.map obV), .sl (s.o3.map obV), .sl (s.o4.map obV)]) 0 = some (.sl (s.o1.map obV)) := rfl
  have hlen := hs.len k
  have hob := hs.ob k
  have hw := (partH_ok hs.h k).1
  have hpl := (partH_ok hs.h k).2
  have hai : aiV (.agg [.sl (s.o1.map obV), .sl (s.o2.map obV), .sl (s.o3.map obV), .sl (s.o4.map obV)]) (.int .i64 (IntKind.i64.wrap (k - 1))) 4 1 true = some (.agg [.sl ((s.obs k).map obV)]) := by
    have : k = 1 ∨ k = 2 ∨ k = 3 ∨ k = 4 := by omega
    rcases this with rfl | rfl | rfl | rfl <;> simp [aiV, Ck.obs, w64_0, w64_1, w64_2, w64_3]
  unfold ptrsQ
  generalize hL : s.obs k = L at *
  generalize hW : partH s.h k = ws at *
  simp [-List.all_eq_true, -List.all_eq_false, ckP, ckL, hai]
  refine wpS_for0 5 L.length (fun i => (L.take i).all (obQ s k q) = true) (by simp) (by simp) (by simp) ?_
  intro i hi hall
  have hwi := wrap_i ((i : Int) + 1) (by omega) (by omega)
  by_cases hlt : i < L.length
  · have hx : L[i]? = some L[i] := List.getElem?_eq_getElem hlt
    obtain ⟨⟨⟨a, ha, hfit⟩, hsh⟩, _⟩ := hob _ (List.getElem_mem hlt)
    generalize L[i] = o at *
    obtain ⟨s1, s2, s3, s4⟩ := shapeOk_iff.1 hsh
    obtain ⟨m, hm⟩ := Int.eq_ofNat_of_zero_le s3
    have hwa := wrap_i ((a : Int) + 1) (by omega) (by omega)
    have hnext : obQ s k q o = true → (L.take (i + 1)).all (obQ s k q) = true := fun h => by rw [all_take hx, hall, h]; rfl
    have hex : obQ s k q o = false → L.all (obQ s k q) = false := fun hno => all_no hx hno
    cases hg : o.gone
    · have hobp : obQ s k q o = (List.range m).all fun j => q ((a + 1 + j : Nat) : Int) (wordAt ws (a + 1 + j)) := by
        unfold obQ
        rw [hm, ha, hW, hg]
        rfl
      simp [-List.all_eq_true, -List.all_eq_false, hlt, hx, at_of hx, idxV, hg, ha, hm]
      refine wpS_for0 11 m (fun j => ((List.range j).all fun j => q ((a + 1 + j : Nat) : Int) (wordAt ws (a + 1 + j))) = true) (by simp) (by simp) (by simp) ?_
      intro j hj hal
      have hwj := wrap_i ((j : Int) + 1) (by omega) (by omega)
      by_cases hjm : j < m
      · obtain ⟨w, hmw, hu⟩ : ∃ w, ws[a + 1 + j]? = some w ∧ U64 w := ⟨_, List.getElem?_eq_getElem (by omega), hw _ (List.getElem_mem _)⟩
        have hww : wordAt ws (a + 1 + j) = w := by unfold wordAt; rw [hmw]; rfl
        have hsucc : ((List.range (j + 1)).all fun j => q ((a + 1 + j : Nat) : Int) (wordAt ws (a + 1 + j))) = (((List.range j).all fun j => q ((a + 1 + j : Nat) : Int) (wordAt ws (a + 1 + j))) && q ((a + 1 + j : Nat) : Int) w) := by
          rw [List.range_succ, List.all_append]; simp [hww]
        have hno : q ((a + 1 + j : Nat) : Int) w = false → L.all (obQ s k q) = false := fun hno => hex (by
          rw [hobp]
          exact all_no (List.getElem?_range hjm) (by rw [hww]; exact hno))
        obtain ⟨n, hn⟩ : ∃ n, a + 1 + j = n := ⟨_, rfl⟩
        have hn1 : (a : Int) + 1 + (j : Int) = (n : Int) := by omega
        have hwn := wrap_i (n : Int) (by omega) (by omega)
        rw [hn] at hmw hsucc hno
        have kq := hq (n : Int) w hu
        simp [-List.all_eq_true, -List.all_eq_false, hjm, hwa, hn1, hwn, hmw, at_of hmw, idxV]
        refine callW_of kq (by simp) ?_
        cases hv : q (n : Int) w
        · simp [-List.all_eq_true, -List.all_eq_false, hno hv]
        · rw [hv] at hsucc
          rw [hal] at hsucc
          simp [-List.all_eq_true, -List.all_eq_false, hwj, hjm]
          simpa [-List.all_eq_true, -List.all_eq_false] using hsucc
      · have : j = m := by omega
        subst this
        simp [-List.all_eq_true, -List.all_eq_false, hwi, hlt, hnext (by rw [hobp]; exact hal)]
    · have hobp : obQ s k q o = true := by unfold obQ; rw [hg]; rfl
      simp [-List.all_eq_true, -List.all_eq_false, hlt, hx, at_of hx, idxV, hg, ha, hm, hwi, hnext hobp]
  · have : i = L.length := by omega
    subst this
    rw [List.take_length] at hall
    simp [-List.all_eq_true, -List.all_eq_false, hall]
@[simp] theorem one_ptr (l : List V) : (V.ptr l).one = true := rfl
@[simp] theorem oneV_ptr (l : List V) : oneV (.ptr l) = some (.ptr l) := rfl
@[simp] theorem one_clo (f : FuncId) (l : List V) : (V.clo f l).one = true := rfl
@[simp] theorem oneV_clo (f : FuncId) (l : List V) : oneV (.clo f l) = some (.clo f l) := rfl
@[simp] theorem oneV_ckP (s : Ck) : oneV (ckP s) = some (ckP s) := rfl
@[simp] theorem one_ckP (s : Ck) : (ckP s).one = true := rfl
@[simp] theorem starV_ckP (s : Ck) : starV (ckP s) = some (.agg (ckL s)) := rfl
@[simp] theorem ckL_scan (s : Ck) : (ckL s)[4]? = some (vi s.h.scan) := rfl
@[simp] theorem ckL_cycle (s : Ck) : (ckL s)[3]? = some (.bool s.h.cycle) := rfl
@[simp] theorem ckL_roots (s : Ck) : (ckL s)[9]? = some (.sl (s.h.roots.map vu)) := rfl
@[simp] theorem ckL_low (s : Ck) : (ckL s)[5]? = some (.sl (s.h.low.map vu)) := rfl
@[simp] theorem ckL_high (s : Ck) : (ckL s)[6]? = some (.sl (s.h.high.map vu)) := rfl
@[simp] theorem ckL_old (s : Ck) : (ckL s)[7]? = some (.sl (s.h.old.map vu)) := rfl
@[simp] theorem ckL_far (s : Ck) : (ckL s)[8]? = some (.sl (s.h.far.map vu)) := rfl
@[simp] theorem ckL_cap (s : Ck) : (ckL s)[1]? = some (vi s.h.cap) := rfl
/-- roots, and the pointers of High, and of the words of Low that were scanned -/
def settledR (s : Ck) : Bool := s.h.roots.all (fun w => pointsR s w 1 2) && (ptrsQ s 2 (fun _ w => pointsR s w 1 2) && ptrsQ s 1 (fun a w => decide (s.h.scan ≤ a) || pointsR s w 1 2))
theorem settled_vc {s : Ck} (hs : s.ok) : VC Try.prog 107 false [ckP s] (.bool (settledR s)) := by
  refine vc_of_wp Try.func107 follows (by kernel_rfl) c107 rfl ?_
  have k1 := pointersQ_vc hs (k := 2) (by omega) (f := 119) (cs := [boxP s]) (q := fun _ w => pointsR s w 1 2) (fun a w hw => settled1_vc hw)
  have k2 := pointersQ_vc hs (k := 1) (by omega) (f := 120) (cs := [boxP s]) (q := fun a w => decide (s.h.scan ≤ a) || pointsR s w 1 2) (fun a w hw => settled2_vc hw)
  have k0 := fun w (hw : U64 w) => points_vc (s := s) (first := 1) (last := 2) hw
  have hrl := hs.h.roots
  have hrw := hs.h.rootsW
  unfold settledR
  unfold boxP at k1 k2
  generalize ptrsQ s 2 (fun _ w => pointsR s w 1 2) = b1 at *
  generalize ptrsQ s 1 (fun a w => decide (s.h.scan ≤ a) || pointsR s w 1 2) = b2 at *
  simp [-List.all_eq_true, -List.all_eq_false, p107]
  refine wpS_for0 3 s.h.roots.length (fun i => (s.h.roots.take i).all (fun w => pointsR s w 1 2) = true) (by simp) (by simp) (by simp) ?_
  intro i hi hall
  have hwi := wrap_i ((i : Int) + 1) (by omega) (by omega)
  by_cases hlt : i < s.h.roots.length
  · have hx : s.h.roots[i]? = some s.h.roots[i] := List.getElem?_eq_getElem hlt
    have hu := hrw _ (List.getElem_mem hlt)
    generalize s.h.roots[i] = w at *
    have hex : pointsR s w 1 2 = false → s.h.roots.all (fun w => pointsR s w 1 2) = false := fun hno => all_no hx hno
    have hnext := all_take (q := fun w => pointsR s w 1 2) hx
    rw [hall] at hnext
    simp [-List.all_eq_true, -List.all_eq_false, hlt, hx, at_of hx, idxV]
    refine callW_of (k0 w hu) (by simp) ?_
    cases hv : pointsR s w 1 2
    · simp [-List.all_eq_true, -List.all_eq_false, hex hv]
    · rw [hv] at hnext
      simp [-List.all_eq_true, -List.all_eq_false, hwi, hlt, hnext]
  · have : i = s.h.roots.length := by omega
    subst this
    rw [List.take_length] at hall
    simp [-List.all_eq_true, -List.all_eq_false, hall]
    refine callW_of k1 (by simp [flV, V.flatc]) ?_
    cases b1
    · simp
    · simp
      refine callW_of k2 (by simp [flV, V.flatc]) ?_
      simp
def unscannedR (s : Ck) : Bool := ptrsQ s 1 (fun a w => decide (a < s.h.scan) || pointsR s w 1 4)
theorem unscanned_vc {s : Ck} (hs : s.ok) : VC Try.prog 108 false [ckP s] (.bool (unscannedR s)) := by
  refine vc_of_wp Try.func108 follows (by kernel_rfl) c108 rfl ?_
  have k1 := pointersQ_vc hs (k := 1) (by omega) (f := 121) (cs := [boxP s]) (q := fun a w => decide (a < s.h.scan) || pointsR s w 1 4) (fun a w hw => unscanned1_vc hw)
  unfold unscannedR
  unfold boxP at k1
  simp [p108]
  refine callW_of k1 (by simp [flV, V.flatc]) ?_
  simp
def leftR (s : Ck) : Bool := ptrsQ s 3 (fun _ w => pointsR s w 3 4) && ptrsQ s 4 (fun _ w => pointsR s w 3 4)
theorem left_vc {s : Ck} (hs : s.ok) : VC Try.prog 109 false [ckP s] (.bool (leftR s)) := by
  refine vc_of_wp Try.func109 follows (by kernel_rfl) c109 rfl ?_
  have k1 := pointersQ_vc hs (k := 3) (by omega) (f := 122) (cs := [boxP s]) (q := fun _ w => pointsR s w 3 4) (fun a w hw => left1_vc hw)
  have k2 := pointersQ_vc hs (k := 4) (by omega) (f := 122) (cs := [boxP s]) (q := fun _ w => pointsR s w 3 4) (fun a w hw => left1_vc hw)
  unfold leftR
  unfold boxP at k1 k2
  generalize ptrsQ s 3 (fun _ w => pointsR s w 3 4) = b1 at *
  generalize ptrsQ s 4 (fun _ w => pointsR s w 3 4) = b2 at *
  simp [p109]
  refine callW_of k1 (by simp [flV, V.flatc]) ?_
  cases b1
  · simp
  · simp
    refine callW_of k2 (by simp [flV, V.flatc]) ?_
    simp
end Vm
/-
  The checker's rules on numbers; how much waits; shapes of objects that are gone.
-/
namespace Vm
open Go Go.Proofs
set_option linter.unusedSimpArgs false
set_option linter.unusedVariables false
set_option maxRecDepth 100000
set_option maxHeartbeats 1000000
def boundedR (s : Ck) : Bool := rightL (layH s.h) && (decide (s.h.roots.length ≤ 16) && (decide (0 ≤ s.h.scan) && decide (s.h.scan ≤ s.h.low.length)))
theorem bounded_vc {s : Ck} (hs : s.h.ok) : VC Try.prog 103 false [ckP s] (.bool (boundedR s)) := by
  refine vc_of_wp Try.func103 follows (by kernel_rfl) c103 rfl ?_
  have k := rightL_vc hs.lay
  unfold boundedR
  unfold layH lyV at k
  simp [p103]
  simp [ckL]
  refine callW_of k (by simp) ?_
  have e : rightL { base := s.h.base, cap := s.h.cap, to := s.h.to, low := (s.h.low.length : Int), high := (s.h.high.length : Int), old := (s.h.old.length : Int), far := (s.h.far.length : Int) } = rightL (layH s.h) := rfl
  rw [e]
  cases rightL (layH s.h)
  · simp
  by_cases h1 : s.h.roots.length ≤ 16
  · have h1' : (s.h.roots.length : Int) ≤ 16 := by omega
    by_cases h2 : 0 ≤ s.h.scan <;> by_cases h3 : s.h.scan ≤ s.h.low.length <;> simp [h1, h1', h2, h3]
  · have h1' : ¬ (s.h.roots.length : Int) ≤ 16 := by omega
    simp [h1, h1']
def restingR (s : Ck) : Bool := if s.h.cycle then decide (s.h.scan < s.h.low.length) else decide (s.h.old.length = 0) && (decide (s.h.far.length = 0) && decide (s.h.scan = s.h.low.length))
theorem resting_vc {s : Ck} : VC Try.prog 104 false [ckP s] (.bool (restingR s)) := by
  refine vc_of_wp Try.func104 follows (by kernel_rfl) c104 rfl ?_
  unfold restingR
  cases hc : s.h.cycle
  · by_cases h1 : s.h.old.length = 0
    · have h1' : s.h.old = [] := List.length_eq_zero_iff.1 h1
      by_cases h2 : s.h.far.length = 0
      · have h2' : s.h.far = [] := List.length_eq_zero_iff.1 h2
        simp [p104, hc, h1', h2']
      · have h2' : ¬ s.h.far = [] := fun e => h2 (by simp [e])
        simp [p104, hc, h1', h2, h2']
    · have h1' : ¬ s.h.old = [] := fun e => h1 (by simp [e])
      simp [p104, hc, h1, h1']
  · simp [p104, hc]
def waitC (s : Ck) : Nat := wtL s.o3 + wtL s.o4
@[simp] theorem obsAi (s : Ck) : ((ckL s).drop 17).take 4 = [.sl (s.o1.map obV), .sl (s.o2.map obV), .sl (s.o3.map obV), .sl (s.o4.map obV)] := rfl
@[simp] theorem ckL_len (s : Ck) : (ckL s).length = 23 := rfl
theorem waitingC_vc {s : Ck} (hs : s.ok) : VC Try.prog 76 false [ckP s] (vi (waitC s)) := by
  refine vc_of_wp Try.func76 follows (by kernel_rfl) c76 rfl ?_
  have hsh : ∀ k, ∀ o ∈ s.obs k, shapeOk o.size o.ptrs = true := fun k o ho => (hs.ob k o ho).1.2
  have hl3 : s.o3.length ≤ 1000000 := hs.len 3
  have hl4 : s.o4.length ≤ 1000000 := hs.len 4
  have hs3 : ∀ o ∈ s.o3, shapeOk o.size o.ptrs = true := hsh 3
  have hs4 : ∀ o ∈ s.o4, shapeOk o.size o.ptrs = true := hsh 4
  have hb3 := wtL_le hs3
  have hb4 := wtL_le hs4
  have a3 : aiV (.agg [.sl (s.o1.map obV), .sl (s.o2.map obV), .sl (s.o3.map obV), .sl (s.o4.map obV)]) (.int .i64 2) 4 1 true = some (.agg [.sl (s.o3.map obV)]) := by simp [aiV]
  have a4 : aiV (.agg [.sl (s.o1.map obV), .sl (s.o2.map obV), .sl (s.o3.map obV), .sl (s.o4.map obV)]) (.int .i64 3) 4 1 true = some (.agg [.sl (s.o4.map obV)]) := by simp [aiV]
  simp [p76]
  refine wpS_loopP (fun (i : Nat) => [(2, .v (vi ((if 0 < i then wtL s.o3 else 0) + (if 1 < i then wtL s.o4 else 0) : Nat))), (3, .v (vi ((i + 3 : Nat) : Int)))]) (fun i => i ≤ 2) (cnt 3 5) 0 (by simp) (by simp) ?_
  rintro i hi
  have hi' : i = 0 ∨ i = 1 ∨ i = 2 := by omega
  rcases hi' with rfl | rfl | rfl
  · simp [w64_2, a3]
    refine wpS_for 5 s.o3.length (fun j => [(2, .v (vi (wtL (s.o3.take j)))), (5, .v (vi j))]) (fun _ => True) (by simp [wtL]) (fun i => by simp) trivial ?_
    rintro j hj -
    have hwj := wrap_i ((j : Int) + 1) (by omega) (by omega)
    by_cases h1 : j < s.o3.length
    · have hx : s.o3[j]? = some s.o3[j] := List.getElem?_eq_getElem h1
      have hsx := hs3 _ (List.getElem_mem h1)
      have hsc := wtL_succ hx
      generalize s.o3[j] = o at *
      have hle : wtL (s.o3.take j) ≤ 256 * s.o3.length := by
        refine Nat.le_trans (wtL_le fun o ho => hs3 o (List.mem_of_mem_take ho)) ?_
        simp; omega
      obtain ⟨g1, g2, g3, g4⟩ := shapeOk_iff.1 hsx
      obtain ⟨z, hz⟩ := Int.eq_ofNat_of_zero_le g1
      have w1 := wrap_i (1 + (z : Int)) (by omega) (by omega)
      have w2 := wrap_i ((wtL (s.o3.take j) : Int) + (1 + z)) (by omega) (by omega)
      cases hg : o.gone
      · have hwo : wtO o = 1 + z := by simp [wtO, hg, hz]
        simp [idxV, h1, hx, at_of hx, hg, hz, w1, w2, hwj, hsc, hwo]
      · have hwo : wtO o = 0 := by simp [wtO, hg]
        simp [idxV, h1, hx, at_of hx, hg, hwj, hsc, hwo]
    · have : j = s.o3.length := by omega
      subst this
      rw [List.take_length]
      simp [idxV, wrap_i]
      exact ⟨1, by omega, by simp, by simp [cnt]⟩
  · simp [w64_3, a4]
    refine wpS_for 5 s.o4.length (fun j => [(2, .v (vi (wtL s.o3 + wtL (s.o4.take j) : Nat))), (5, .v (vi j))]) (fun _ => True) (by simp [wtL]) (fun i => by simp) trivial ?_
    rintro j hj -
    have hwj := wrap_i ((j : Int) + 1) (by omega) (by omega)
    by_cases h1 : j < s.o4.length
    · have hx : s.o4[j]? = some s.o4[j] := List.getElem?_eq_getElem h1
      have hsx := hs4 _ (List.getElem_mem h1)
      have hsc := wtL_succ hx
      generalize s.o4[j] = o at *
      have hle : wtL (s.o4.take j) ≤ 256 * s.o4.length := by
        refine Nat.le_trans (wtL_le fun o ho => hs4 o (List.mem_of_mem_take ho)) ?_
        simp; omega
      obtain ⟨g1, g2, g3, g4⟩ := shapeOk_iff.1 hsx
      obtain ⟨z, hz⟩ := Int.eq_ofNat_of_zero_le g1
      have w1 := wrap_i (1 + (z : Int)) (by omega) (by omega)
      have w2 := wrap_i ((wtL s.o3 : Int) + wtL (s.o4.take j) + (1 + z)) (by omega) (by omega)
      cases hg : o.gone
      · have hwo : wtO o = 1 + z := by simp [wtO, hg, hz]
        simp [idxV, h1, hx, at_of hx, hg, hz, w1, w2, hwj, hsc, hwo]
        omega
      · have hwo : wtO o = 0 := by simp [wtO, hg]
        simp [idxV, h1, hx, at_of hx, hg, hwj, hsc, hwo]
    · have : j = s.o4.length := by omega
      subst this
      rw [List.take_length]
      simp [idxV, wrap_i]
      exact ⟨2, by omega, by simp, by simp [cnt]⟩
  · simp [waitC]
def roomyR (s : Ck) : Bool := decide ((s.h.low.length : Int) + s.h.high.length + waitC s ≤ s.h.cap)
theorem waitC_le {s : Ck} (hs : s.ok) : waitC s ≤ 512 * 1000000 := by
  have hb3 := wtL_le (l := s.o3) fun o ho => (hs.ob 3 o ho).1.2
  have hb4 := wtL_le (l := s.o4) fun o ho => (hs.ob 4 o ho).1.2
  have hl3 : s.o3.length ≤ 1000000 := hs.len 3
  have hl4 : s.o4.length ≤ 1000000 := hs.len 4
  unfold waitC
  omega
theorem roomy_vc {s : Ck} (hs : s.ok) : VC Try.prog 110 false [ckP s] (.bool (roomyR s)) := by
  refine vc_of_wp Try.func110 follows (by kernel_rfl) c110 rfl ?_
  have h1 := waitC_le hs
  have h2 := hs.h.low
  have h3 := hs.h.high
  have w1 := wrap_i ((s.h.low.length : Int) + s.h.high.length) (by omega) (by omega)
  have w2 := wrap_i ((s.h.low.length : Int) + s.h.high.length + waitC s) (by omega) (by omega)
  simp [p110]
  refine callW_of (waitingC_vc hs) (by simp) ?_
  simp [w1, w2, roomyR]
end Vm
/-
  Shapes of objects that are gone; which objects went where.
-/
namespace Vm
open Go Go.Proofs
set_option linter.unusedSimpArgs false
set_option linter.unusedVariables false
set_option maxRecDepth 100000
set_option maxHeartbeats 1000000
def shapesC (lm : List (Int × (Int × Int))) (ws : List Int) : Nat → Nat → List (Int × Int) → List (Int × Int)
  | 0, _, acc => acc
  | f + 1, i, acc =>
    match ws[i]? with
    | none => acc
    | some w => if (adr w).2 = 0 then (match getA lm (adr w).1 with | none => acc | some sh => shapesC lm ws f (i + 1 + sh.1.toNat) (acc ++ [sh]))
      else if (unpk w).2.2 = 0 then shapesC lm ws f (i + 1 + (unpk w).1.toNat) acc else acc
def shapesL (lm : List (Int × (Int × Int))) (ws : List Int) : List (Int × Int) := shapesC lm ws (ws.length + 1) 0 []
theorem getA_mem {α : Type} {l : List (Int × α)} {k : Int} {x : α} (h : getA l k = some x) : (k, x) ∈ l := by
  unfold getA at h
  obtain ⟨y, hy, rfl⟩ := Option.map_eq_some_iff.1 h
  have h1 := List.mem_of_find?_eq_some hy
  have h2 := List.find?_some hy
  have : y.1 = k := by simpa using h2
  rw [← this]
  exact h1
theorem shapesC_vc {s : Ck} (hlm : ∀ x ∈ s.lm, shapeOk x.2.1 x.2.2 = true) {ws : List Int} (hl : ws.length ≤ 1000000) (hw : ∀ w ∈ ws, U64 w) :
    VC Try.prog 115 false [ckP s, .sl (ws.map vu)] (.sl ((shapesL s.lm ws).map shP)) := by
  refine vc_of_wp Try.func115 follows (by kernel_rfl) c115 rfl ?_
  have hlk : ∀ k, lkV (.i .u64) (mpA shP s.lm) (vu k) (.agg [vi 0, vi 0]) true = match getA s.lm k with
    | some x => some (.tup [shP x, .bool true])
    | none => some (.tup [.agg [vi 0, vi 0], .bool false]) := fun k => by rw [lkV_A]; cases getA s.lm k <;> simp
  have h22 : (ckL s)[22]? = some (mpA shP s.lm) := rfl
  simp [p115]
  refine wpS_loopP (fun (p : Nat × List (Int × Int)) => [(3, .v (.sl (p.2.map shP))), (4, .v (vi p.1))])
    (fun p => p.1 ≤ ws.length + 256 ∧ p.2.length ≤ p.1 ∧ ∃ f, ws.length < f + p.1 ∧ 0 < f ∧ shapesL s.lm ws = shapesC s.lm ws f p.1 p.2) (cnt 4 ws.length) (0, []) (by simp) ⟨by simp, by simp, ws.length + 1, by simp, by omega, rfl⟩ ?_
  rintro ⟨i, acc⟩ ⟨hi, hacc, f, hf, hf0, hR⟩
  simp only at hi hacc hf hR
  cases f with
  | zero => omega
  | succ f =>
  by_cases hlt : i < ws.length
  · have hx : ws[i]? = some ws[i] := List.getElem?_eq_getElem hlt
    have hu := hw _ (List.getElem_mem hlt)
    generalize ws[i] = w at *
    simp only [shapesC, hx] at hR
    have hlim : acc.length + 1 ≤ lim := by simp [lim]; omega
    simp [hlt, hx, at_of hx, idxV]
    refine callW_of (adr_vc hu) (by simp) ?_
    by_cases ha : (adr w).2 = 0
    · rw [if_pos ha] at hR
      simp [ha, h22, hlk]
      cases hat : getA s.lm (adr w).1 with
      | none =>
        rw [hat] at hR
        simp only at hR
        rw [hR]
        simp
      | some sh =>
        rw [hat] at hR
        simp only at hR
        have hsh : 0 ≤ sh.1 ∧ sh.1 ≤ 255 ∧ 0 ≤ sh.2 ∧ sh.2 ≤ sh.1 := shapeOk_iff.1 (hlm _ (getA_mem hat))
        obtain ⟨z, hz⟩ := Int.eq_ofNat_of_zero_le hsh.1
        have hw1 := wrap_i (1 + (z : Int)) (by omega) (by omega)
        have hw2 := wrap_i ((i : Int) + (1 + z)) (by omega) (by omega)
        rw [hz, Int.toNat_natCast] at hR
        simp [hlim, hz, hw1, hw2]
        refine ⟨i + 1 + z, acc ++ [sh], ⟨by omega, by simp; omega, f, by omega, ?_, hR⟩, ⟨by simp [shP, hz], by omega⟩, by simp [cnt]; omega⟩
        omega
    · rw [if_neg ha] at hR
      simp [ha, hx, at_of hx, hlt, idxV]
      refine callW_of (unpk_vc hu) (by simp) ?_
      by_cases hun : (unpk w).2.2 = 0
      · rw [if_pos hun] at hR
        have hsh := shapeOk_iff.1 (unpk_ok hun)
        obtain ⟨z, hz⟩ := Int.eq_ofNat_of_zero_le hsh.1
        have hw1 := wrap_i (1 + (z : Int)) (by omega) (by omega)
        have hw2 := wrap_i ((i : Int) + (1 + z)) (by omega) (by omega)
        rw [hz, Int.toNat_natCast] at hR
        simp [hun, hz, hw1, hw2]
        refine ⟨i + 1 + z, acc, ⟨by omega, by omega, f, by omega, ?_, hR⟩, ⟨rfl, by omega⟩, by simp [cnt]; omega⟩
        omega
      · rw [if_neg hun] at hR
        rw [hR]
        simp [hun]
  · have hx : ws[i]? = none := List.getElem?_eq_none (by omega)
    simp only [shapesC, hx] at hR
    rw [hR]
    have : ¬ ((i : Int) < ws.length) := by omega
    simp [hlt, this]
end Vm
/-
  Which objects went where.
-/
namespace Vm
open Go Go.Proofs
set_option linter.unusedSimpArgs false
set_option linter.unusedVariables false
set_option maxRecDepth 100000
set_option maxHeartbeats 1000000
/-- the targets of a part's objects that are gone are of Low, and no two are alike -/
def copQ (pm : List (Int × Int)) : List Ob → List (Int × Bool) → Option (List (Int × Bool))
  | [], m => some m
  | o :: l, m => if o.gone = true then (if (getA pm o.target).getD 0 = 1 ∧ (getA m o.target).getD false = false then copQ pm l (putA m o.target true) else none) else copQ pm l m
def copiedCR (s : Ck) : Bool := !s.h.cycle || match (copQ s.pm s.o3 []).bind (copQ s.pm s.o4) with
  | none => false
  | some m => decide (m.length = s.o1.length)
theorem mputV_b {l : List (Int × Bool)} {k : Int} {x : Bool} : mputV (.i .u64) (mpA .bool l) (vu k) (.bool x) = some (mpA .bool (putA l k x)) := mputV_A
theorem lkV_b {l : List (Int × Bool)} {k : Int} : lkV (.i .u64) (mpA .bool l) (vu k) (.bool false) false = some (.bool ((getA l k).getD false)) := by
  rw [lkV_A]; cases getA l k <;> simp
theorem lkV_p {l : List (Int × Int)} {k : Int} : lkV (.i .u64) (mpA vi l) (vu k) (vi 0) false = some (vi ((getA l k).getD 0)) := by
  rw [lkV_A]; cases getA l k <;> simp
theorem mpA_nil {α : Type} (f : α → V) : mpA f [] = .mp 0 [] [] := rfl
theorem copQ_len {pm : List (Int × Int)} : ∀ {l : List Ob} {m m' : List (Int × Bool)}, copQ pm l m = some m' → m'.length ≤ m.length + l.length
  | [], m, m', h => by simp [copQ] at h; subst h; simp
  | o :: l, m, m', h => by
    rw [copQ] at h
    split at h
    · split at h
      · have := copQ_len h
        have := putA_len (l := m) (k := o.target) (x := true)
        simp; omega
      · cases h
    · have := copQ_len h
      simp; omega
theorem copiedC_vc {s : Ck} (hs : s.ok) : VC Try.prog 106 false [ckP s] (.bool (copiedCR s)) := by
  refine vc_of_wp Try.func106 follows (by kernel_rfl) c106 rfl ?_
  have hl3 : s.o3.length ≤ 1000000 := hs.len 3
  have hl4 : s.o4.length ≤ 1000000 := hs.len 4
  have hu3 : ∀ o ∈ s.o3, U64 o.target := fun o ho => (hs.ob 3 o ho).2
  have hu4 : ∀ o ∈ s.o4, U64 o.target := fun o ho => (hs.ob 4 o ho).2
  have a3 : aiV (.agg [.sl (s.o1.map obV), .sl (s.o2.map obV), .sl (s.o3.map obV), .sl (s.o4.map obV)]) (.int .i64 2) 4 1 true = some (.agg [.sl (s.o3.map obV)]) := by simp [aiV]
  have a4 : aiV (.agg [.sl (s.o1.map obV), .sl (s.o2.map obV), .sl (s.o3.map obV), .sl (s.o4.map obV)]) (.int .i64 3) 4 1 true = some (.agg [.sl (s.o4.map obV)]) := by simp [aiV]
  have a1 : aiV (.agg [.sl (s.o1.map obV), .sl (s.o2.map obV), .sl (s.o3.map obV), .sl (s.o4.map obV)]) (.int .i64 0) 4 1 true = some (.agg [.sl (s.o1.map obV)]) := by simp [aiV]
  have h21 : (ckL s)[21]? = some (mpA vi s.pm) := rfl
  have hm0 := (mpA_nil V.bool).symm
  unfold copiedCR
  cases hc : s.h.cycle
  · simp [p106, hc]
  simp [p106, hc, hm0]
  refine wpS_loopP (fun (p : Nat × List (Int × Bool)) => [(3, .v (mpA .bool p.2)), (4, .v (vi ((p.1 + 3 : Nat) : Int)))])
    (fun p => (p.1 = 0 ∧ p.2 = []) ∨ (p.1 = 1 ∧ copQ s.pm s.o3 [] = some p.2) ∨ (p.1 = 2 ∧ (copQ s.pm s.o3 []).bind (copQ s.pm s.o4) = some p.2)) (cnt 4 5) (0, []) (by simp) (by simp) ?_
  rintro ⟨i, m⟩ (⟨rfl, rfl⟩ | ⟨rfl, hm⟩ | ⟨rfl, hm⟩)
  · simp [w64_2, a3]
    refine wpS_loopP (fun (p : Nat × List (Int × Bool)) => [(3, .v (mpA .bool p.2)), (6, .v (vi p.1))]) (fun p => p.1 ≤ s.o3.length ∧ copQ s.pm s.o3 [] = copQ s.pm (s.o3.drop p.1) p.2) (cnt 6 s.o3.length) (0, []) (by simp) (by simp) ?_
    rintro ⟨j, mj⟩ ⟨hj, he⟩
    simp only at hj he
    have hwj := wrap_i ((j : Int) + 1) (by omega) (by omega)
    by_cases h1 : j < s.o3.length
    · have hx : s.o3[j]? = some s.o3[j] := List.getElem?_eq_getElem h1
      have hd := List.drop_eq_getElem_cons h1
      have hut := hu3 _ (List.getElem_mem h1)
      generalize s.o3[j] = o at *
      rw [hd, copQ] at he
      cases hg : o.gone
      · rw [hg] at he
        rw [if_neg (by simp)] at he
        simp [idxV, h1, hx, at_of hx, hg, hwj]
        exact ⟨j + 1, mj, ⟨by omega, he⟩, ⟨rfl, by omega⟩, by simp [cnt]; omega⟩
      · rw [hg] at he
        rw [if_pos rfl] at he
        by_cases h2 : (getA s.pm o.target).getD 0 = 1
        · cases h3 : (getA mj o.target).getD false
          · rw [if_pos ⟨h2, h3⟩] at he
            simp [idxV, h1, hx, at_of hx, hg, hwj, h21, lkV_p, lkV_b, flV, V.flatc, h2, h3, mputV_b]
            exact ⟨j + 1, putA mj o.target true, ⟨by omega, he⟩, ⟨rfl, by omega⟩, by simp [cnt]; omega⟩
          · rw [if_neg (by simp [h3])] at he
            simp [idxV, h1, hx, at_of hx, hg, hwj, h21, lkV_p, lkV_b, flV, V.flatc, h2, h3, he]
        · rw [if_neg (by simp [h2])] at he
          simp [idxV, h1, hx, at_of hx, hg, hwj, h21, lkV_p, lkV_b, flV, V.flatc, h2, he]
    · have : j = s.o3.length := by omega
      subst this
      rw [List.drop_length, copQ] at he
      simp [wrap_i]
      exact ⟨1, mj, by simp [he], by simp, by simp [cnt]⟩
  · simp [w64_3, a4]
    refine wpS_loopP (fun (p : Nat × List (Int × Bool)) => [(3, .v (mpA .bool p.2)), (6, .v (vi p.1))]) (fun p => p.1 ≤ s.o4.length ∧ copQ s.pm s.o4 m = copQ s.pm (s.o4.drop p.1) p.2) (cnt 6 s.o4.length) (0, m) (by simp) (by simp) ?_
    rintro ⟨j, mj⟩ ⟨hj, he⟩
    simp only at hj he
    have hwj := wrap_i ((j : Int) + 1) (by omega) (by omega)
    by_cases h1 : j < s.o4.length
    · have hx : s.o4[j]? = some s.o4[j] := List.getElem?_eq_getElem h1
      have hd := List.drop_eq_getElem_cons h1
      have hut := hu4 _ (List.getElem_mem h1)
      generalize s.o4[j] = o at *
      rw [hd, copQ] at he
      cases hg : o.gone
      · rw [hg] at he
        rw [if_neg (by simp)] at he
        simp [idxV, h1, hx, at_of hx, hg, hwj]
        exact ⟨j + 1, mj, ⟨by omega, he⟩, ⟨rfl, by omega⟩, by simp [cnt]; omega⟩
      · rw [hg] at he
        rw [if_pos rfl] at he
        by_cases h2 : (getA s.pm o.target).getD 0 = 1
        · cases h3 : (getA mj o.target).getD false
          · rw [if_pos ⟨h2, h3⟩] at he
            simp [idxV, h1, hx, at_of hx, hg, hwj, h21, lkV_p, lkV_b, flV, V.flatc, h2, h3, mputV_b]
            exact ⟨j + 1, putA mj o.target true, ⟨by omega, he⟩, ⟨rfl, by omega⟩, by simp [cnt]; omega⟩
          · rw [if_neg (by simp [h3])] at he
            simp [idxV, h1, hx, at_of hx, hg, hwj, h21, lkV_p, lkV_b, flV, V.flatc, h2, h3, hm, he]
        · rw [if_neg (by simp [h2])] at he
          simp [idxV, h1, hx, at_of hx, hg, hwj, h21, lkV_p, lkV_b, flV, V.flatc, h2, hm, he]
    · have : j = s.o4.length := by omega
      subst this
      rw [List.drop_length, copQ] at he
      simp [wrap_i]
      exact ⟨2, mj, by simp [hm, he], by simp, by simp [cnt]⟩
  · simp [w64_0, w64_2, a1]
    rw [hm]
    simp
    omega
end Vm
/-
  The walk through the parts, given what objects.Walk and objects.WalkOld answer.
-/
namespace Vm
open Go Go.Proofs
set_option linter.unusedSimpArgs false
set_option linter.unusedVariables false
set_option maxRecDepth 100000
set_option maxHeartbeats 1000000
/-- what objects.Walk answers -/
def WalkOk : Prop := ∀ ws : List Int, ws.length ≤ 1000000 → (∀ w ∈ ws, U64 w) → VC Try.prog 112 true [.sl (ws.map vu)] (.tup [.sl ((walkW ws [] false).1.map obV), vi (walkW ws [] false).2])
/-- what objects.WalkOld answers -/
def WalkOldOk : Prop := ∀ (ws : List Int) (shs : List (Int × Int)), ws.length ≤ 1000000 → shs.length ≤ 1000000 → (∀ w ∈ ws, U64 w) → (∀ x ∈ shs, shapeOk x.1 x.2 = true) →
  VC Try.prog 114 true [.sl (ws.map vu), .sl (shs.map shP)] (.tup [.sl ((walkW ws shs true).1.map obV), vi (walkW ws shs true).2])
def walkStep (s : Ck) (k : Int) : List Ob × Int := if k ≤ 2 then walkW (partH s.h k) [] false else walkW (partH s.h k) (shapesL s.lm (partH s.h k)) true
def walkedF : List Int → Ck → Bool × Ck
  | [], s => (true, s)
  | k :: l, s => if (walkStep s k).2 = 0 then walkedF l (noteS s k (walkStep s k).1) else (false, s)
def walkedR (s : Ck) : Bool × Ck := walkedF [1, 2, 3, 4] s
theorem noteS_h (s : Ck) (k : Int) (l : List Ob) : (noteS s k l).h = s.h := put_h s k l
theorem putA_mem {α : Type} {l : List (Int × α)} {k : Int} {x : α} {y : Int × α} (h : y ∈ putA l k x) : y = (k, x) ∨ y ∈ l := by
  unfold putA at h
  split at h
  · rcases List.mem_or_eq_of_mem_set h with h | h
    · exact .inr h
    · exact .inl h
  · rcases List.mem_append.1 h with h | h
    · exact .inr h
    · simp at h; exact .inl h
theorem noteLm_ok {h : Hp} {k : Int} : ∀ {l : List Ob} {m : List (Int × (Int × Int))}, (∀ o ∈ l, shapeOk o.size o.ptrs = true) → (∀ x ∈ m, shapeOk x.2.1 x.2.2 = true) → ∀ x ∈ noteLm h k m l, shapeOk x.2.1 x.2.2 = true
  | [], m, _, hm => hm
  | o :: l, m, ho, hm => by
    rw [noteLm]
    refine noteLm_ok (fun p hp => ho p (List.mem_cons_of_mem _ hp)) ?_
    split
    · intro x hx
      rcases putA_mem hx with rfl | hx
      · exact ho o (.head _)
      · exact hm x hx
    · exact hm
theorem walkStep_ok {s : Ck} (hh : s.h.ok) {k : Int} : (∀ o ∈ (walkStep s k).1, ObIn (partH s.h k).length o ∧ U64 o.target) ∧ (walkStep s k).1.length ≤ (partH s.h k).length := by
  unfold walkStep
  split
  · exact ⟨walkW_in (partH_ok hh k).1, walkW_len⟩
  · exact ⟨walkW_in (partH_ok hh k).1, walkW_len⟩
theorem shapesC_len {lm : List (Int × (Int × Int))} {ws : List Int} : ∀ {f i : Nat} {acc : List (Int × Int)}, acc.length ≤ i → acc.length ≤ ws.length → (shapesC lm ws f i acc).length ≤ ws.length
  | 0, i, acc, _, h => h
  | f + 1, i, acc, hi, h => by
    rw [shapesC]
    cases hx : ws[i]? with
    | none => exact h
    | some w =>
      have hlt : i < ws.length := (List.getElem?_eq_some_iff.1 hx).1
      simp only
      split
      · split
        · exact h
        · exact shapesC_len (by simp; omega) (by simp; omega)
      · split
        · exact shapesC_len (by omega) h
        · exact h
theorem shapesL_len {lm : List (Int × (Int × Int))} {ws : List Int} : (shapesL lm ws).length ≤ ws.length := shapesC_len (by simp) (by simp)
theorem shapesC_ok {lm : List (Int × (Int × Int))} {ws : List Int} (hlm : ∀ x ∈ lm, shapeOk x.2.1 x.2.2 = true) : ∀ {f i : Nat} {acc : List (Int × Int)}, (∀ x ∈ acc, shapeOk x.1 x.2 = true) → ∀ x ∈ shapesC lm ws f i acc, shapeOk x.1 x.2 = true
  | 0, i, acc, h => h
  | f + 1, i, acc, h => by
    rw [shapesC]
    cases hx : ws[i]? with
    | none => exact h
    | some w =>
      simp only
      split
      · split
        · exact h
        · rename_i sh hsh
          refine shapesC_ok hlm ?_
          intro x hx
          rcases List.mem_append.1 hx with hx | hx
          · exact h x hx
          · simp at hx; subst hx; exact hlm _ (getA_mem hsh)
      · split
        · exact shapesC_ok hlm h
        · exact h
theorem w64_4 : IntKind.i64.wrap 4 = 4 := by decide
theorem walked_vcm (hW : WalkOk) (hWO : WalkOldOk) {s : Ck} (hh : s.h.ok) (hlm : ∀ x ∈ s.lm, shapeOk x.2.1 x.2.2 = true) : VCM Try.prog 105 [.mem ckK] [.agg (ckL s)] (.tup [.bool (walkedR s).1, .agg (ckL (walkedR s).2)]) := by
  refine vcm_of_wp Try.func105 follows (by kernel_rfl) c105 (by kernel_rfl) ?_
  simp [p105]
  refine wpS_loopP (fun (p : Nat × Ck) => [(0, .m (ckL p.2)), (3, .v (vi p.1))]) (fun p => p.1 ≤ 4 ∧ p.2.h = s.h ∧ (∀ x ∈ p.2.lm, shapeOk x.2.1 x.2.2 = true) ∧ walkedR s = walkedF ([1, 2, 3, 4].drop p.1) p.2) (cnt 3 4) (0, s) (by simp) ⟨by simp, rfl, hlm, rfl⟩ ?_
  rintro ⟨i, q⟩ ⟨hi, hq, hql, hR⟩
  simp only at hi hq hql hR
  have hqh : q.h.ok := hq ▸ hh
  have hi' : i = 0 ∨ i = 1 ∨ i = 2 ∨ i = 3 ∨ i = 4 := by omega
  have kw := fun k hk => words_vc (s := q) (k := k) hk
  have ks := fun k => shapesC_vc (s := q) hql (partH_ok hqh k).2 (partH_ok hqh k).1
  rcases hi' with rfl | rfl | rfl | rfl | rfl
  · replace kw := kw 1 (by omega)
    have st := walkStep_ok hqh (k := 1)
    have kn := note_vcm (s := q) hqh (k := 1) (by omega) (l := (walkStep q 1).1) (Nat.le_trans st.2 (partH_ok hqh 1).2)
    have k1 := hW _ (partH_ok hqh 1).2 (partH_ok hqh 1).1
    have hsh := noteLm_ok (h := q.h) (k := 1) (l := (walkStep q 1).1) (m := q.lm) (fun o ho => (st.1 o ho).1.2) hql
    replace hR : walkedR s = walkedF (1 :: [2, 3, 4]) q := hR
    rw [walkedF] at hR
    have hws : walkStep q 1 = walkW (partH q.h 1) [] false := rfl
    rw [← hws] at k1
    generalize walkStep q 1 = z at *
    obtain ⟨l, e⟩ := z
    simp only at k1 kn hR hsh st
    unfold ckP ckL at kw
    unfold ckL at kn
    simp [ckL, w64_1, w64_2, w64_3, w64_4]
    refine callW_of kw (by simp) ?_
    simp
    refine callW_of k1 (by simp) ?_
    simp
    by_cases he : e = 0
    · rw [if_pos he] at hR
      simp [he]
      refine callWM_of kn ?_
      simp [wrap_i]
      exact ⟨1, noteS q 1 l, ⟨by omega, by rw [noteS_h, hq], fun a b c h => hsh (a, b, c) h, hR⟩, ⟨by simp, rfl⟩, by simp [cnt]⟩
    · rw [if_neg he] at hR
      simp [he, hR, ckL]
  · replace kw := kw 2 (by omega)
    have st := walkStep_ok hqh (k := 2)
    have kn := note_vcm (s := q) hqh (k := 2) (by omega) (l := (walkStep q 2).1) (Nat.le_trans st.2 (partH_ok hqh 2).2)
    have k1 := hW _ (partH_ok hqh 2).2 (partH_ok hqh 2).1
    have hsh := noteLm_ok (h := q.h) (k := 2) (l := (walkStep q 2).1) (m := q.lm) (fun o ho => (st.1 o ho).1.2) hql
    replace hR : walkedR s = walkedF (2 :: [3, 4]) q := hR
    rw [walkedF] at hR
    have hws : walkStep q 2 = walkW (partH q.h 2) [] false := rfl
    rw [← hws] at k1
    generalize walkStep q 2 = z at *
    obtain ⟨l, e⟩ := z
    simp only at k1 kn hR hsh st
    unfold ckP ckL at kw
    unfold ckL at kn
    simp [ckL, w64_1, w64_2, w64_3, w64_4]
    refine callW_of kw (by simp) ?_
    simp
    refine callW_of k1 (by simp) ?_
    simp
    by_cases he : e = 0
    · rw [if_pos he] at hR
      simp [he]
      refine callWM_of kn ?_
      simp [wrap_i]
      exact ⟨2, noteS q 2 l, ⟨by omega, by rw [noteS_h, hq], fun a b c h => hsh (a, b, c) h, hR⟩, ⟨by simp, rfl⟩, by simp [cnt]⟩
    · rw [if_neg he] at hR
      simp [he, hR, ckL]
  · replace kw := kw 3 (by omega)
    have st := walkStep_ok hqh (k := 3)
    have kn := note_vcm (s := q) hqh (k := 3) (by omega) (l := (walkStep q 3).1) (Nat.le_trans st.2 (partH_ok hqh 3).2)
    have k1 := hWO _ (shapesL q.lm (partH q.h 3)) (partH_ok hqh 3).2 (Nat.le_trans shapesL_len (partH_ok hqh 3).2) (partH_ok hqh 3).1 (shapesC_ok hql (by simp))
    replace ks := ks 3
    have hsh := noteLm_ok (h := q.h) (k := 3) (l := (walkStep q 3).1) (m := q.lm) (fun o ho => (st.1 o ho).1.2) hql
    replace hR : walkedR s = walkedF (3 :: [4]) q := hR
    rw [walkedF] at hR
    have hws : walkStep q 3 = walkW (partH q.h 3) (shapesL q.lm (partH q.h 3)) true := rfl
    rw [← hws] at k1
    generalize walkStep q 3 = z at *
    obtain ⟨l, e⟩ := z
    simp only at k1 kn hR hsh st
    unfold ckP ckL at kw ks
    unfold ckL at kn
    simp [ckL, w64_1, w64_2, w64_3, w64_4]
    refine callW_of kw (by simp) ?_
    simp
    refine callW_of kw (by simp) ?_
    simp
    refine callW_of ks (by simp) ?_
    simp
    refine callW_of k1 (by simp) ?_
    simp
    by_cases he : e = 0
    · rw [if_pos he] at hR
      simp [he]
      refine callWM_of kn ?_
      simp [wrap_i]
      exact ⟨3, noteS q 3 l, ⟨by omega, by rw [noteS_h, hq], fun a b c h => hsh (a, b, c) h, hR⟩, ⟨by simp, rfl⟩, by simp [cnt]⟩
    · rw [if_neg he] at hR
      simp [he, hR, ckL]
  · replace kw := kw 4 (by omega)
    have st := walkStep_ok hqh (k := 4)
    have kn := note_vcm (s := q) hqh (k := 4) (by omega) (l := (walkStep q 4).1) (Nat.le_trans st.2 (partH_ok hqh 4).2)
    have k1 := hWO _ (shapesL q.lm (partH q.h 4)) (partH_ok hqh 4).2 (Nat.le_trans shapesL_len (partH_ok hqh 4).2) (partH_ok hqh 4).1 (shapesC_ok hql (by simp))
    replace ks := ks 4
    have hsh := noteLm_ok (h := q.h) (k := 4) (l := (walkStep q 4).1) (m := q.lm) (fun o ho => (st.1 o ho).1.2) hql
    replace hR : walkedR s = walkedF (4 :: []) q := hR
    rw [walkedF] at hR
    have hws : walkStep q 4 = walkW (partH q.h 4) (shapesL q.lm (partH q.h 4)) true := rfl
    rw [← hws] at k1
    generalize walkStep q 4 = z at *
    obtain ⟨l, e⟩ := z
    simp only at k1 kn hR hsh st
    unfold ckP ckL at kw ks
    unfold ckL at kn
    simp [ckL, w64_1, w64_2, w64_3, w64_4]
    refine callW_of kw (by simp) ?_
    simp
    refine callW_of kw (by simp) ?_
    simp
    refine callW_of ks (by simp) ?_
    simp
    refine callW_of k1 (by simp) ?_
    simp
    by_cases he : e = 0
    · rw [if_pos he] at hR
      simp [he]
      refine callWM_of kn ?_
      simp [wrap_i]
      exact ⟨4, noteS q 4 l, ⟨by omega, by rw [noteS_h, hq], fun a b c h => hsh (a, b, c) h, hR⟩, ⟨by simp, rfl⟩, by simp [cnt]⟩
    · rw [if_neg he] at hR
      simp [he, hR, ckL]
  · replace hR : walkedR s = (true, q) := hR
    simp [hR, ckL]
end Vm
/-
  A function that only reads what it is handed by pointer, called where a variable may be written.
-/
namespace Vm
open Go Go.Proofs
set_option linter.unusedSimpArgs false
set_option linter.unusedVariables false
set_option maxRecDepth 100000
set_option maxHeartbeats 1000000
theorem vcm_of_ptr {P : Program} {f : FuncId} {ks : List CK} {cs : List V} {r : V} (hv : VC P f false [.ptr cs] r) (hfl : r.flatc = true) (hlen : cs.length = ks.length) (hone : cs.all V.one = true) (hdd : ks.all (fun k => !(k == .dead)) = true) :
    VCM P f [.mem ks] [.agg cs] (.tup [r, .agg cs]) := by
  obtain ⟨h1, h2⟩ := hv
  refine ⟨h1, fun B w h vs hok hA => ?_⟩
  obtain ⟨hxl, hvl, hAi⟩ := hA
  obtain ⟨tk, harg, hrel⟩ := hAi 0 (.mem ks) (.agg cs) rfl rfl
  simp only [argK] at harg
  rw [if_pos hlen] at harg
  simp only [Option.some.injEq] at harg
  subst harg
  obtain ⟨b, us, T, hb0, hv0, hh, hcs⟩ := hrel
  have hcells : ∀ (ks : List CK) (cs : List V), cs.length = ks.length → evals [] (((ks.zip cs).map fun y => (y.1, E.c y.2)).map (·.2)) = some cs := by
    intro ks
    induction ks with
    | nil => intro cs hl; have : cs = [] := List.length_eq_zero_iff.1 hl; subst this; rfl
    | cons k ks ih =>
      intro cs hl
      cases cs with
      | nil => simp at hl
      | cons c cs =>
        simp only [List.zip_cons_cons, List.map_cons, evals, eval]
        rw [ih cs (by simpa using hl)]
        rfl
  have hz : eval [] (.pt none (((ks.zip cs).map fun y => (y.1, E.c y.2)).map (·.2))) = some (.ptr cs) := by
    simp only [eval, hcells ks cs hlen, Option.bind_some, ptV, hone, if_true]
  have hd : anyDead ((ks.zip cs).map fun y => (y.1, E.c y.2)) = false := by
    rw [anyDead, List.any_eq_false]
    intro x hx
    obtain ⟨y, hy, rfl⟩ := List.mem_map.1 hx
    have := List.all_eq_true.1 hdd y.1 (List.of_mem_zip hy).1
    simpa using this
  have hrd := mem_ptr (G' := fun b => h.F b ∨ ∃ t i, h.bl t i = some b) hb0 hh hcs hd hz (fun b hb => .inl hb) fun i b hb => .inr ⟨0, i, hb⟩
  refine Calls.mono (h2 w (fun b => h.F b ∨ ∃ t i, h.bl t i = some b) vs (fun b hb => ?_) (by simpa using hvl) fun i x hx => ?_) fun e w' he => ?_
  · rcases hb with hb | ⟨t, i, hb⟩
    · exact hok.f_lt b hb
    · exact (hok.b_lt t i b hb).2.1
  · cases i with
    | zero =>
      simp at hx
      subst hx
      rw [hv0]
      exact hrd
    | succ i => simp at hx
  · obtain ⟨v, rfl, hbel, hrv⟩ := he
    have hsz := hbel.size
    have hF : Same h.F w w' := fun b hb => hbel.block b (hok.f_lt b hb)
    have hB : ∀ t i b, h.bl t i = some b → w'.heap[b]? = w.heap[b]? := fun t i b hb => hbel.block b (hok.b_lt t i b hb).2.1
    have hlen1 : us.size = cs.length := by
      have := hcs.1
      simp [hlen] at this
      omega
    refine ⟨v, r, [.agg cs], h, rfl, hbel.mono hok.base, fun b hb => hbel.block b (hok.k_lt b hb), ⟨Nat.le_trans hok.base hsz, fun b hb => Nat.lt_of_lt_of_le (hok.f_lt b hb) hsz, hok.f_or, hok.g_F, fun t i b hb => ?_, hok.inj, fun b hb => Nat.lt_of_lt_of_le (hok.k_lt b hb) hsz, hok.k_bl, hok.k_F⟩, rfl, hrv.flat hfl, ⟨rfl, fun i k y hk hkz hy => ?_⟩, rfl⟩
    · obtain ⟨q1, q2, q3⟩ := hok.b_lt t i b hb
      exact ⟨q1, Nat.lt_of_lt_of_le q2 hsz, q3⟩
    · cases i with
      | zero =>
        simp at hk hy
        subst hk; subst hy
        refine ⟨.mem ((ks.zip cs).map fun y => (y.1, .c y.2)), by rw [argK, if_pos hlen], b, us, T, hb0, hv0, ?_, hcs.keep hF (fun _ hb => hb) (fun _ => rfl) fun i b hb => hB 0 _ b hb⟩
        rw [hB 0 0 b hb0]
        exact hh
      | succ i => simp at hk
end Vm
/-
  What is found in a heap, and whether it is right.
-/
namespace Vm
open Go Go.Proofs
set_option linter.unusedSimpArgs false
set_option linter.unusedVariables false
set_option maxRecDepth 100000
set_option maxHeartbeats 1000000
def rulesL : List FuncId := [103, 104, 105, 106, 107, 108, 109, 110]
def fnA (f : FuncId) : V := .agg [.fn f]
theorem rules_vc : VC Try.prog 94 false [] (.sl (rulesL.map fnA)) := by
  refine vc_of_wp Try.func94 follows (by kernel_rfl) c94 rfl ?_
  simp [p94, rulesL, fnA]
def ruleR (f : FuncId) (s : Ck) : Bool × Ck :=
  if f = 103 then (boundedR s, s) else if f = 104 then (restingR s, s) else if f = 105 then walkedR s
  else if f = 106 then (copiedCR s, s) else if f = 107 then (settledR s, s) else if f = 108 then (unscannedR s, s) else if f = 109 then (leftR s, s) else (roomyR s, s)
/-- the state, and the shapes in it -/
structure Ck.okk (s : Ck) : Prop where
  ok : s.ok
  lm : ∀ x ∈ s.lm, shapeOk x.2.1 x.2.2 = true
theorem Ck.obs_put (s : Ck) (k : Int) (l : List Ob) (hk : 1 ≤ k ∧ k ≤ 4) (j : Int) : (s.put k l).obs j = if j = k ∨ (k = 4 ∧ ¬ (j = 1 ∨ j = 2 ∨ j = 3)) then l else s.obs j := by
  have : k = 1 ∨ k = 2 ∨ k = 3 ∨ k = 4 := by omega
  rcases this with rfl | rfl | rfl | rfl <;> simp [Ck.put, Ck.obs] <;> (split <;> simp_all) <;> (try split <;> simp_all) <;> (try split <;> simp_all)
theorem noteS_okk {s : Ck} (hs : s.okk) {k : Int} (hk : 1 ≤ k ∧ k ≤ 4) : (noteS s k (walkStep s k).1).okk := by
  have st := walkStep_ok hs.ok.h (k := k)
  have hpl := (partH_ok hs.ok.h k).2
  have hobs : ∀ j, (noteS s k (walkStep s k).1).obs j = ((s.put k (walkStep s k).1).obs j) := fun j => rfl
  refine ⟨⟨by rw [noteS_h]; exact hs.ok.h, fun j o ho => ?_, fun j => ?_⟩, noteLm_ok (fun o ho => (st.1 o ho).1.2) hs.lm⟩
  · rw [noteS_h]
    rw [hobs, Ck.obs_put _ _ _ hk] at ho
    split at ho
    · rename_i h
      have : partH s.h j = partH s.h k := by
        rcases h with rfl | ⟨rfl, h⟩
        · rfl
        · simp only [not_or] at h
          simp [partH, h]
      rw [this]
      exact st.1 o ho
    · exact hs.ok.ob j o ho
  · rw [hobs, Ck.obs_put _ _ _ hk]
    split
    · exact Nat.le_trans st.2 hpl
    · exact hs.ok.len j
theorem walkedF_okk : ∀ {l : List Int} {s : Ck}, (∀ k ∈ l, 1 ≤ k ∧ k ≤ 4) → s.okk → (walkedF l s).2.okk ∧ (walkedF l s).2.h = s.h
  | [], s, _, hs => ⟨hs, rfl⟩
  | k :: l, s, hl, hs => by
    rw [walkedF]
    split
    · have := walkedF_okk (l := l) (fun k hk => hl k (List.mem_cons_of_mem _ hk)) (noteS_okk hs (hl k (List.mem_cons_self ..)))
      exact ⟨this.1, this.2.trans (noteS_h ..)⟩
    · exact ⟨hs, rfl⟩
theorem walkedR_okk {s : Ck} (hs : s.okk) : (walkedR s).2.okk ∧ (walkedR s).2.h = s.h := walkedF_okk (by intro k hk; simp at hk; omega) hs
theorem ruleR_okk {s : Ck} (hs : s.okk) {f : FuncId} : (ruleR f s).2.okk ∧ (ruleR f s).2.h = s.h := by
  unfold ruleR
  repeat' split
  all_goals first | exact ⟨hs, rfl⟩ | exact walkedR_okk hs
theorem rule_vcm (hW : WalkOk) (hWO : WalkOldOk) {s : Ck} (hs : s.okk) {f : FuncId} (hf : f ∈ rulesL) : VCM Try.prog f [.mem ckK] [.agg (ckL s)] (.tup [.bool (ruleR f s).1, .agg (ckL (ruleR f s).2)]) := by
  have go : ∀ {f b}, VC Try.prog f false [ckP s] (.bool b) → VCM Try.prog f [.mem ckK] [.agg (ckL s)] (.tup [.bool b, .agg (ckL s)]) := fun h => vcm_of_ptr h rfl rfl rfl rfl
  simp only [rulesL, List.mem_cons, List.not_mem_nil, or_false] at hf
  rcases hf with rfl | rfl | rfl | rfl | rfl | rfl | rfl | rfl
  · exact go (bounded_vc hs.ok.h)
  · exact go resting_vc
  · exact walked_vcm hW hWO hs.ok.h hs.lm
  · exact go (copiedC_vc hs.ok)
  · exact go (settled_vc hs.ok)
  · exact go (unscanned_vc hs.ok)
  · exact go (left_vc hs.ok)
  · exact go (roomy_vc hs.ok)
def lookF : List FuncId → Ck → Option Ck
  | [], s => some s
  | f :: l, s => if (ruleR f s).1 = true then lookF l (ruleR f s).2 else none
def initCk (h : Hp) : Ck := { h := h, o1 := [], o2 := [], o3 := [], o4 := [], pm := [], lm := [] }
def lookR (h : Hp) : Option Ck := lookF rulesL (initCk h)
theorem initCk_okk {h : Hp} (hh : h.ok) : (initCk h).okk := by
  have h0 : ∀ k, (initCk h).obs k = [] := fun k => by simp [initCk, Ck.obs]
  refine ⟨⟨hh, fun k o ho => ?_, fun k => ?_⟩, fun x hx => (by simp [initCk] at hx)⟩
  · rw [h0] at ho; simp at ho
  · rw [h0]; simp
theorem look_vc (hW : WalkOk) (hWO : WalkOldOk) {h : Hp} (hh : h.ok) : VC Try.prog 68 false [hpV h] (.tup [match lookR h with | some s => ckP s | none => .nul 0, .bool (lookR h).isSome]) := by
  refine vc_of_wp Try.func68 follows (by kernel_rfl) c68 rfl ?_
  have k1 := Layout_vc (h := h)
  have k2 := rules_vc
  have hlen : rulesL.length = 8 := rfl
  unfold hpV at k1
  simp [p68]
  refine callW_of k1 (by simp) ?_
  simp [lyV, layH]
  refine callW_of k2 (by simp) ?_
  simp
  refine wpS_loopP (fun (p : Nat × Ck) => [(5, .m (ckL p.2)), (6, .v (vi p.1))]) (fun p => p.1 ≤ 8 ∧ p.2.okk ∧ lookR h = lookF (rulesL.drop p.1) p.2) (cnt 6 8) (0, initCk h) (by simp [ckL, initCk, mpA_nil]) ⟨by simp, initCk_okk hh, rfl⟩ ?_
  rintro ⟨i, q⟩ ⟨hi, hq, hR⟩
  simp only at hi hq hR
  have hwi := wrap_i ((i : Int) + 1) (by omega) (by omega)
  by_cases hlt : i < rulesL.length
  · have hx : rulesL[i]? = some rulesL[i] := List.getElem?_eq_getElem hlt
    have hd := List.drop_eq_getElem_cons hlt
    have hm := List.getElem_mem hlt
    generalize rulesL[i] = f at *
    rw [hd, lookF] at hR
    have kr := rule_vcm hW hWO hq hm
    have hok := (ruleR_okk hq (f := f)).1
    rw [hlen] at hlt
    have hlt' : (i : Int) < 8 := by omega
    simp [idxV, hlt, hlt', hx, at_of hx, hlen, fnA, ckL]
    unfold ckL at kr
    refine callWM_of kr ?_
    cases hb : (ruleR f q).1
    · rw [if_neg (by simp [hb])] at hR
      simp [hR]
    · rw [if_pos hb] at hR
      simp [hwi]
      exact ⟨i + 1, (ruleR f q).2, ⟨by omega, hok, hR⟩, ⟨by simp, by omega⟩, by simp [cnt]; omega⟩
  · have : i = 8 := by omega
    subst this
    replace hR : lookR h = some q := hR
    simp [hlen, hR, ckL, ckP]
theorem lookF_okk : ∀ {l : List FuncId} {s q : Ck}, s.okk → lookF l s = some q → q.okk ∧ q.h = s.h
  | [], s, q, hs, h => by simp only [lookF, Option.some.injEq] at h; subst h; exact ⟨hs, rfl⟩
  | f :: l, s, q, hs, h => by
    rw [lookF] at h
    split at h
    · have h1 := ruleR_okk hs (f := f)
      have h2 := lookF_okk h1.1 h
      exact ⟨h2.1, h2.2.trans h1.2⟩
    · cases h
theorem lookR_okk {h : Hp} (hh : h.ok) {q : Ck} (hq : lookR h = some q) : q.okk ∧ q.h = h := lookF_okk (initCk_okk hh) hq
theorem CRight_vc (hW : WalkOk) (hWO : WalkOldOk) {h : Hp} (hh : h.ok) : VC Try.prog 30 false [hpV h] (.bool (lookR h).isSome) := by
  refine vc_of_wp Try.func30 follows (by kernel_rfl) c30 rfl ?_
  simp [p30]
  refine callW_of (look_vc hW hWO hh) (by simp) ?_
  simp
def objsC (h : Hp) (k : Int) : List Ob × Int := match lookR h with
  | some s => if 1 ≤ k ∧ k ≤ 4 then (s.obs k, 0) else ([], 1)
  | none => ([], 1)
theorem CObjects_vc (hW : WalkOk) (hWO : WalkOldOk) {h : Hp} (hh : h.ok) {k : Int} : VC Try.prog 34 false [hpV h, vi k] (.tup [.sl ((objsC h k).1.map obV), vi (objsC h k).2]) := by
  refine vc_of_wp Try.func34 follows (by kernel_rfl) c34 rfl ?_
  simp [p34]
  refine callW_of (look_vc hW hWO hh) (by simp) ?_
  unfold objsC
  cases hl : lookR h with
  | none => simp
  | some s =>
    by_cases h1 : 1 ≤ k
    · by_cases h2 : k ≤ 4
      · have : k = 1 ∨ k = 2 ∨ k = 3 ∨ k = 4 := by omega
        rcases this with rfl | rfl | rfl | rfl <;> simp [aiV, w64_0, w64_1, w64_2, w64_3, Ck.obs]
      · have h1' : ¬ k < 1 := by omega
        have h2' : 4 < k := by omega
        simp [h1, h2, h1', h2']
    · have h1' : k < 1 := by omega
      simp [h1, h1']
def waitCR (h : Hp) : Nat := match lookR h with
  | some s => waitC s
  | none => 0
theorem CWaiting_vc (hW : WalkOk) (hWO : WalkOldOk) {h : Hp} (hh : h.ok) : VC Try.prog 32 false [hpV h] (vi (waitCR h)) := by
  refine vc_of_wp Try.func32 follows (by kernel_rfl) c32 rfl ?_
  simp [p32]
  refine callW_of (look_vc hW hWO hh) (by simp) ?_
  unfold waitCR
  cases hl : lookR h with
  | none => simp
  | some s =>
    simp
    refine callW_of (waitingC_vc (lookR_okk hh hl).1.ok) (by simp) ?_
    simp
end Vm
