/-
  Operations that write nothing but their own temporary (2): addresses, parts, numbers.
-/
import Derived.Test.YtbmgnmjghhakhaaVf
namespace Vm
open Go
open Go.RowKit (Below)
set_option linter.unusedSimpArgs false
set_option linter.unusedVariables false
section
variable {c : Ctx} {B : Nat} {G : Nat → Prop} {s : St} {a : Act} {w : World} {h : GH} {g : Gam} {C : Conds}

theorem info_of_cells {P : Program} {T : TypeId} (h : P.cellsOf T ≠ 0) : ∃ i, P.info? T = some i ∧ P.cellsOf T = i.size := by
  unfold Program.cellsOf at h ⊢
  cases hi : P.info? T with
  | none => simp [hi] at h
  | some i => exact ⟨i, rfl, by simp⟩
theorem td_st {P : Program} {T : TypeId} {fs : List (Nat × Nat × Bool × Bool)} (h : tdOf P T = .st fs) : ∃ fds, P.underlying T = some (.struct fds) ∧ (∀ fd ∈ fds, okT P fd.type = true) ∧ fs = fds.toList.map fun f => (f.offset, P.cellsOf f.type, isAggT P f.type, flatT P f.type) := by
  unfold tdOf at h
  split at h <;> first | (cases h; done) | skip
  rename_i e he
  split at h
  · rename_i hall
    cases h
    exact ⟨_, he, fun fd hfd => List.all_eq_true.1 hall fd (Array.mem_toList_iff.2 hfd), rfl⟩
  · cases h
theorem fieldOf_some {P : Program} {T : TypeId} {f : Nat} {x : Nat × Nat × Bool × Bool} (hf : fieldOf P T f = some x) :
    ∃ fs fd, P.underlying T = some (.struct fs) ∧ fs[f]? = some fd ∧ okT P fd.type = true ∧ x = (fd.offset, P.cellsOf fd.type, isAggT P fd.type, flatT P fd.type) := by
  unfold fieldOf at hf
  split at hf
  · rename_i fs htd
    obtain ⟨fds, hu, hall, rfl⟩ := td_st htd
    rw [List.getElem?_map, Array.getElem?_toList, Option.map_eq_some_iff] at hf
    obtain ⟨fd, h1, h2⟩ := hf
    exact ⟨fds, fd, hu, h1, hall fd (Array.mem_of_getElem? h1), h2.symm⟩
  · cases hf
theorem run_fieldAt {T : TypeId} {f b o : Nat} {x : Nat × Nat × Bool × Bool} (hf : fieldOf c.P T f = some x) (hn : x.2.1 ≠ 0) :
    (Instr.fieldAt T (.pointer (some ⟨b, o, none⟩)) f).run c.P w = .ok (.pointer (some ⟨b, o + x.1, none⟩)) w := by
  obtain ⟨fs, fd, hu, hfd, _, rfl⟩ := fieldOf_some hf
  obtain ⟨i, hi, hs⟩ := info_of_cells hn
  simp only at hn hs
  have hn' : i.size ≠ 0 := by rw [← hs]; exact hn
  simp [Instr.fieldAt, run_underlying hu, hfd, Instr.sureAddr, fieldPlace, run_szOf hi, hn', Addr.add_lit]

theorem pkField_run (hr : RelG c B G s a w h g) (hC : holds s (ixC c C)) {T : TypeId} {x : Operand} {f : Nat} {k : TK} {es : List E} (hp : pkField c g C T x f = some (k, es)) (hes : ∀ e ∈ es, ∃ z, eval s e = some z) (d : Nat) :
    Has c B s w h (fun p => a.tmps[p]?) d k (Instr.fieldAt T (a.eval x) f) := by
  unfold pkField at hp
  simp only [Option.bind_eq_some_iff] at hp
  obtain ⟨y, hf, hp⟩ := hp
  split at hp
  · simp at hp
  · rename_i hn
    split at hp
    · rename_i cs hk
      simp only [Option.some.injEq, Prod.mk.injEq] at hp
      obtain ⟨rfl, rfl⟩ := hp
      obtain ⟨t, rfl, ⟨v, hv, hev, ⟨b, vs, ty, h1, rfl, _⟩⟩, _⟩ := (opK_case hr hC hk rfl).resolve_left (by rintro (⟨e, h⟩ | h) <;> cases h)
      rw [hev]
      exact ⟨_, run_fieldAt hf hn, b, h1, by rw [Nat.zero_add]⟩
    · rename_i p q hk
      simp only [Option.some.injEq, Prod.mk.injEq] at hp
      obtain ⟨rfl, rfl⟩ := hp
      obtain ⟨b, h1, h2⟩ := opK_rel hr hC hk rfl d
      rw [h2]
      exact ⟨_, run_fieldAt hf hn, b, h1, rfl⟩
    · rename_i e q sh hk
      simp only [Option.some.injEq, Prod.mk.injEq] at hp
      obtain ⟨rfl, rfl⟩ := hp
      obtain ⟨z, b, r, vs, h0, h1, h2, h3, h4, h5⟩ := opK_rel hr hC hk rfl d
      rw [h1]
      exact ⟨_, run_fieldAt hf hn, z, b, r, vs, h0, by rw [Nat.add_assoc], h2, h3, h4, h5⟩
    · rename_i e sh hk
      simp only [Option.some.injEq, Prod.mk.injEq] at hp
      obtain ⟨rfl, rfl⟩ := hp
      obtain ⟨u, hu, hrd⟩ := opK_val_rd hr hC hk
      obtain ⟨z, hz⟩ := hes _ (List.Mem.head _)
      simp only [eval, hu, Option.bind_some] at hz
      generalize a.eval x = v at hrd
      cases hrd with
      | ptr cs b o vs h1 h2 h3 h4 =>
        exact ⟨_, run_fieldAt hf hn, .agg cs, b, o, vs, by simp [eval, hu, starV], rfl, h1, h2, h3, h4⟩
      | _ => simp [starV] at hz
    · rename_i p i j q kk hk
      simp only [Option.some.injEq, Prod.mk.injEq] at hp
      obtain ⟨rfl, rfl⟩ := hp
      obtain ⟨n, r, h1, h2, h3⟩ := opK_rel hr hC hk rfl d
      rw [h3]
      exact ⟨_, run_fieldAt hf hn, n, r, h1, h2, by rw [Nat.add_assoc]⟩
    · simp at hp

theorem td_sl {P : Program} {T el : TypeId} (h : tdOf P T = .sl el) : P.underlying T = some (.slice el) := by
  unfold tdOf at h
  split at h <;> (try split at h) <;> first | (cases h; done) | skip
  rename_i e he
  cases h
  exact he
theorem td_ar {P : Program} {T el : TypeId} {n : Nat} (h : tdOf P T = .ar n el) : P.underlying T = some (.array n el) := by
  unfold tdOf at h
  split at h <;> (try split at h) <;> first | (cases h; done) | skip
  rename_i n e he
  cases h
  exact he
theorem idxV_some {x j z : V} {k : Nat} (hz : idxV x j k = some z) : ∃ l ki q, x = .sl l ∧ j = .int ki (q : Nat) ∧ l[q]? = some z ∧ z.cells.length = k := by
  unfold idxV at hz
  split at hz
  · rename_i l ki i
    split at hz
    · rename_i h0
      obtain ⟨q, rfl⟩ := Int.eq_ofNat_of_zero_le h0
      rw [Int.toNat_natCast, Option.bind_eq_some_iff] at hz
      obtain ⟨y', hy, hy'⟩ := hz
      split at hy' <;> first | (simp only [Option.some.injEq] at hy'; subst y') | (simp at hy'; done)
      exact ⟨l, ki, q, rfl, rfl, hy, by assumption⟩
    · simp at hz
  · simp at hz
theorem Rd.int_eq {G' : Nat → Prop} {ki : IntKind} {n : Int} {v : Value} (h : Rd w G' (.int ki n) v) : v = .int ki n := by cases h; rfl

/-- an element's address -/
theorem run_indexAt {T el : TypeId} (hT : c.P.underlying T = some (.slice el)) (hel : okT c.P el = true) {b o len cap : Nat} {ki : IntKind} {q : Nat} (hq : q < len) :
    (Instr.indexAt T (.slice (some ⟨b, o, none⟩) len cap) (.int ki (q : Nat))).run c.P w = .ok (.pointer (some ⟨b, o + q * c.P.cellsOf el, none⟩)) w := by
  obtain ⟨dd, i, hd, hi, hs, _⟩ := okT_of hel
  have h1 : (0 : Int) ≤ (q : Nat) ∧ ((q : Nat) : Int) < (len : Nat) := by omega
  simp [Instr.indexAt, asIntOf, run_underlying hT, hq, run_szOf hi, hs, Addr.add_lit]

theorem pkIndexAddr_run (hr : RelG c B G s a w h g) (hC : holds s (ixC c C)) {T : TypeId} {x i : Operand} {k : TK} {es : List E} (hp : pkIndexAddr c g C T x i = some (k, es)) (hes : ∀ e ∈ es, ∃ z, eval s e = some z) (d : Nat) :
    Has c B s w h (fun p => a.tmps[p]?) d k (Instr.indexAt T (a.eval x) (a.eval i)) := by
  unfold pkIndexAddr at hp
  split at hp
  · rename_i el hT
    have hT' := td_sl hT
    simp only [Option.bind_eq_some_iff] at hp
    obtain ⟨⟨j, sj⟩, hj, hp⟩ := hp
    obtain ⟨y, hy, hyr⟩ := opE_rd hr hC hj
    have own : ∀ {p : Nat} {pi : Option Nat}, opK g C x = placeK p pi → indexOwn c g p pi el j = some (k, es) → Has c B s w h (fun p => a.tmps[p]?) d k (Instr.indexAt T (a.eval x) (a.eval i)) := by
      intro p pi hk hio
      unfold indexOwn at hio
      simp only [Option.bind_eq_some_iff] at hio
      obtain ⟨⟨ty, e⟩, ho, hio⟩ := hio
      split at hio
      · rename_i hcel
        obtain ⟨hcel, hokel⟩ := hcel
        simp only [Option.some.injEq, Prod.mk.injEq] at hio
        obtain ⟨rfl, rfl⟩ := hio
        have hrel := opK_rel hr hC hk (by cases pi <;> rfl) 0
        obtain ⟨xv, hxv, hown⟩ := hr.ownAt ho hrel
        obtain ⟨z, hz⟩ := hes _ (List.Mem.head _)
        simp only [eval, hxv, hy, Option.bind_some] at hz
        have hz' := hz
        obtain ⟨l, ki, q, rfl, rfl, hlz, _⟩ := idxV_some hz
        obtain ⟨l', n, cap, cur, xs, hl', _, hbl, hv, _⟩ := hown.elem hz'
        cases hl'
        rw [hv, hyr.int_eq]
        refine ⟨_, run_indexAt hT' hokel (List.getElem?_eq_some_iff.1 hlz).1, n, q, ?_, ⟨ki, hy⟩, by rw [Nat.zero_add, Nat.add_zero]⟩
        cases pi <;> exact hbl
      · simp at hio
    split at hp
    · rename_i p hk
      exact own (pi := none) hk hp
    · rename_i p q hk
      exact own (pi := some q) hk hp
    · rename_i e sh hk
      split at hp
      · rename_i hokel
        simp only [Option.some.injEq, Prod.mk.injEq] at hp
        obtain ⟨rfl, rfl⟩ := hp
        obtain ⟨u, hu, hrd⟩ := opK_val_rd hr hC hk
        obtain ⟨z, hz⟩ := hes _ (List.Mem.head _)
        have hz0 := hz
        simp only [eval, hu, hy, Option.bind_some] at hz
        obtain ⟨l, ki, q, rfl, rfl, hlz, hzk⟩ := idxV_some hz
        rw [hyr.int_eq]
        generalize a.eval x = v at hrd
        cases hrd with
        | nil a' cap hc => simp at hlz
        | sl _ b o cap kk vs h1 h2 h3 h4 h5 h6 =>
          have hfit := h4 z (List.mem_of_getElem? hlz)
          have hkk : kk = c.P.cellsOf el := by rw [← hfit.1, hzk]
          subst hkk
          have hlt := (List.getElem?_eq_some_iff.1 hlz).1
          have hle : q * c.P.cellsOf el + c.P.cellsOf el ≤ l.length * c.P.cellsOf el := by
            rw [← Nat.succ_mul]; exact Nat.mul_le_mul_right _ hlt
          have hpc := fits_pc hfit
          refine ⟨_, run_indexAt hT' hokel hlt, z, b, o + q * c.P.cellsOf el, fun i => vs (q * c.P.cellsOf el + i), hz0, by rw [Nat.add_zero], h3, by rw [hpc]; exact hfit.2, fun i hi => ?_, fun i u hi => ?_⟩
          · rw [hpc, hfit.1] at hi
            rw [Nat.add_assoc]
            exact h5 _ (by omega)
          · rw [hpc] at hi
            have hi' : i < c.P.cellsOf el := by rw [← hfit.1]; exact (List.getElem?_eq_some_iff.1 hi).1
            exact h6 _ u (by rw [flat_at h4 hlz i hi']; exact hi)
      · simp at hp
    · simp at hp
  · rename_i n el hT
    have hT' := td_ar hT
    split at hp
    · simp at hp
    · rename_i hokel
      simp only [Bool.not_eq_true, Bool.not_eq_false'] at hokel
      simp only [Option.bind_eq_some_iff] at hp
      obtain ⟨⟨j, sj⟩, hj, hp⟩ := hp
      obtain ⟨y, hy, hyr⟩ := opE_rd hr hC hj
      have fin : ∀ {p o b : Nat}, a.eval x = .pointer (some ⟨b, o, none⟩) → h.bl p 0 = some b → some (TK.pa p o j n (c.P.cellsOf el), [E.ai (.c (.agg (List.replicate n (.bool true)))) j n 1 false]) = some (k, es) → Has c B s w h (fun p => a.tmps[p]?) d k (Instr.indexAt T (a.eval x) (a.eval i)) := by
        intro p o b hev hb heq
        simp only [Option.some.injEq, Prod.mk.injEq] at heq
        obtain ⟨rfl, rfl⟩ := heq
        obtain ⟨z, hz⟩ := hes _ (List.Mem.head _)
        simp only [eval, hy, Option.bind_some] at hz
        obtain ⟨cs, ki, q, _, rfl, hq, _⟩ := aiV_some hz
        rw [hev, hyr.int_eq]
        obtain ⟨dd, info, hd, hi, hs, _⟩ := okT_of hokel
        refine ⟨_, ?_, b, q, hb, ⟨ki, hy⟩, hq, rfl⟩
        simp [Instr.indexAt, asIntOf, run_underlying hT', hq, run_szOf hi, hs, Addr.add_lit, Instr.sureAddr]
      split at hp
      · rename_i cs hk
        obtain ⟨t, rfl, ⟨v, hv, hev, ⟨b, vs, ty, h1, rfl, _⟩⟩, _⟩ := (opK_case hr hC hk rfl).resolve_left (by rintro (⟨e, h⟩ | h) <;> cases h)
        exact fin hev h1 hp
      · rename_i p o hk
        obtain ⟨b, h1, h2⟩ := opK_rel hr hC hk rfl d
        exact fin h2 h1 hp
      · simp at hp
  · simp at hp

/-! ### Sure sizes -/
theorem isone_V {x z : V} (h : oneV x = some z) : z.one = true := (oneV_some h).2
theorem mputV_form {kc : KC} {x k v z : V} (h : mputV kc x k v = some z) : ∃ id ks vs ks' vs', x = .mp id ks vs ∧ z = .mp id ks' vs' := by
  unfold mputV at h
  split at h
  · cases h
  cases x <;> simp only at h <;> first | (cases h; done) | skip
  split at h
  · simp only [Option.some.injEq] at h; exact ⟨_, _, _, _, _, rfl, h.symm⟩
  · simp only [Option.some.injEq] at h; exact ⟨_, _, _, _, _, rfl, h.symm⟩
  · cases h
theorem eval_sure : ∀ (e : E) (x : V), e.sure = true → eval s e = some x → x.one = true
  | .c v, x, h, he => by simp only [eval, Option.some.injEq] at he; subst he; exact h
  | .m t i, x, _, he => by
    simp only [eval] at he
    split at he
    · rw [Option.bind_eq_some_iff] at he; obtain ⟨y, _, h1⟩ := he; exact isone_V h1
    · simp at he
  | .bin op a b, x, _, he => by
    simp only [eval, Option.bind_eq_some_iff] at he
    obtain ⟨y, _, z, _, h1⟩ := he
    cases y <;> cases z <;> cases op <;> simp only [binV] at h1 <;> (try split at h1) <;> (try simp only [Option.some.injEq] at h1) <;> (try subst h1) <;> first | rfl | simp at h1
  | .eqv n a b, x, _, he => by
    simp only [eval, Option.bind_eq_some_iff] at he
    obtain ⟨y, _, z, _, h1⟩ := he
    cases y <;> cases z <;> simp only [eqV] at h1 <;> (try simp only [Option.some.injEq] at h1) <;> (try subst h1) <;> first | rfl | simp at h1
  | .un op a, x, _, he => by
    simp only [eval, Option.bind_eq_some_iff] at he
    obtain ⟨y, _, h1⟩ := he
    cases y <;> cases op <;> simp only [unV] at h1 <;> (try simp only [Option.some.injEq] at h1) <;> (try subst h1) <;> first | rfl | simp at h1
  | .conv k a, x, _, he => by
    simp only [eval, Option.bind_eq_some_iff] at he
    obtain ⟨y, _, h1⟩ := he
    cases y <;> simp only [convV] at h1 <;> (try simp only [Option.some.injEq] at h1) <;> (try subst h1) <;> first | rfl | simp at h1
  | .len a, x, _, he => by
    simp only [eval, Option.bind_eq_some_iff] at he
    obtain ⟨y, _, h1⟩ := he
    cases y <;> simp only [lenV] at h1 <;> (try simp only [Option.some.injEq] at h1) <;> (try subst h1) <;> first | rfl | simp at h1
  | .mn a b, x, _, he => by
    simp only [eval, Option.bind_eq_some_iff] at he
    obtain ⟨y, _, z, _, h1⟩ := he
    cases y <;> cases z <;> simp only [minV] at h1 <;> (try simp only [Option.some.injEq] at h1) <;> (try subst h1) <;> first | rfl | simp at h1
  | .mx a b, x, _, he => by
    simp only [eval, Option.bind_eq_some_iff] at he
    obtain ⟨y, _, z, _, h1⟩ := he
    cases y <;> cases z <;> simp only [maxV] at h1 <;> (try simp only [Option.some.injEq] at h1) <;> (try subst h1) <;> first | rfl | simp at h1
  | .mput kc a k v, x, _, he => by
    simp only [eval, Option.bind_eq_some_iff] at he
    obtain ⟨y, _, z, _, u, _, h1⟩ := he
    obtain ⟨_, _, _, _, _, _, rfl⟩ := mputV_form h1
    rfl
  | .mlen a, x, _, he => by
    simp only [eval, Option.bind_eq_some_iff] at he
    obtain ⟨y, _, h1⟩ := he
    cases y <;> simp only [mlenV] at h1 <;> (try simp only [Option.some.injEq] at h1) <;> (try subst h1) <;> first | rfl | simp at h1
  | .mclr a, x, _, he => by
    simp only [eval, Option.bind_eq_some_iff] at he
    obtain ⟨y, _, h1⟩ := he
    cases y <;> simp only [mclrV] at h1 <;> (try simp only [Option.some.injEq] at h1) <;> (try subst h1) <;> first | rfl | simp at h1
  | .fld a o, x, _, he => by
    simp only [eval, Option.bind_eq_some_iff, fldV] at he
    obtain ⟨y, _, z, _, h1⟩ := he
    exact isone_V h1
  | .slc a lo hi k, x, _, he => by
    simp only [eval, Option.bind_eq_some_iff] at he
    obtain ⟨y, _, z, _, u, _, h1⟩ := he
    unfold slcV at h1
    split at h1
    · split at h1
      · simp only [Option.some.injEq] at h1; subst h1; rfl
      · simp at h1
    · simp at h1
  | .slcl a lo k, x, _, he => by
    simp only [eval, Option.bind_eq_some_iff] at he
    obtain ⟨y, _, z, _, h1⟩ := he
    unfold slclV at h1
    split at h1
    · split at h1
      · simp only [Option.some.injEq] at h1; subst h1; rfl
      · simp at h1
    · simp at h1
  | .app a b k, x, _, he => by
    simp only [eval, Option.bind_eq_some_iff] at he
    obtain ⟨y, _, z, _, h1⟩ := he
    unfold appV at h1
    split at h1
    · split at h1
      · simp only [Option.some.injEq] at h1; subst h1; rfl
      · simp at h1
    · simp at h1
  | .upd a i o b, x, _, he => by
    simp only [eval, Option.bind_eq_some_iff] at he
    obtain ⟨y, _, z, _, u, _, h1⟩ := he
    unfold updV at h1
    split at h1
    · split at h1
      · rw [Option.bind_eq_some_iff] at h1
        obtain ⟨q, _, h1⟩ := h1
        split at h1
        · simp only [Option.some.injEq] at h1; subst h1; rfl
        · simp at h1
      · simp at h1
    · simp at h1
  | .mk z n, x, _, he => by
    simp only [eval, Option.bind_eq_some_iff] at he
    obtain ⟨y, _, h1⟩ := he
    unfold mkV at h1
    split at h1
    · split at h1
      · simp only [Option.some.injEq] at h1; subst h1; rfl
      · simp at h1
    · simp at h1
  | .lit l, x, _, he => by
    simp only [eval, Option.map_eq_some_iff] at he
    obtain ⟨y, _, h1⟩ := he
    subst h1; rfl
  | .one a, x, _, he => by
    simp only [eval, Option.bind_eq_some_iff] at he
    obtain ⟨y, _, h1⟩ := he
    exact isone_V h1
  | .ite d a b, x, h, he => by
    simp only [E.sure, Bool.and_eq_true] at h
    simp only [eval, Option.bind_eq_some_iff] at he
    obtain ⟨y, _, h1⟩ := he
    unfold iteV at h1
    split at h1
    · exact eval_sure a x h.1 h1
    · exact eval_sure b x h.2 h1
    · simp at h1
  | .s t, x, h, he => by simp [E.sure] at h
  | .mm t i n, x, h, he => by simp [E.sure] at h
  | .ext a i, x, h, he => by simp [E.sure] at h
  | .idx a i k, x, h, he => by simp [E.sure] at h
  | .flds a o n, x, h, he => by simp [E.sure] at h
  | .ai a i n k ag, x, h, he => by simp [E.sure] at h
  | .aput a i n k b, x, h, he => by simp [E.sure] at h
  | .ag l, x, h, he => by simp [E.sure] at h
  | .star a, x, h, he => by simp [E.sure] at h
  | .isag a, x, h, he => by simp [E.sure] at h
  | .sz a n, x, h, he => by simp [E.sure] at h
  | .fl a, x, h, he => by simp [E.sure] at h
  | .fls a, x, h, he => by simp [E.sure] at h
end
end Vm
