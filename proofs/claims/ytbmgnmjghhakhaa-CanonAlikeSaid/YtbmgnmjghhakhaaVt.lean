/-
  Expressions: what they ask; the same ones; parts of one.
-/
import Derived.Test.YtbmgnmjghhakhaaVs
namespace Vm
open Go
set_option linter.unusedSimpArgs false
set_option linter.unusedVariables false

mutual
theorem eval_agree {s t : St} : ∀ (e : E), (∀ j, E.asks j e = true → get s j = get t j) → eval s e = eval t e
  | .c v, _ => rfl
  | .s u, h => by simp only [eval]; rw [h u (by simp [E.asks])]
  | .m u i, h => by simp only [eval]; rw [h u (by simp [E.asks])]
  | .mm u i n, h => by simp only [eval]; rw [h u (by simp [E.asks])]
  | .bin op a b, h => by simp only [eval]; rw [eval_agree a fun j hj => h j (by simp [E.asks, hj]), eval_agree b fun j hj => h j (by simp [E.asks, hj])]
  | .eqv n a b, h => by simp only [eval]; rw [eval_agree a fun j hj => h j (by simp [E.asks, hj]), eval_agree b fun j hj => h j (by simp [E.asks, hj])]
  | .un op a, h => by simp only [eval]; rw [eval_agree a fun j hj => h j (by simp [E.asks, hj])]
  | .conv k a, h => by simp only [eval]; rw [eval_agree a fun j hj => h j (by simp [E.asks, hj])]
  | .len a, h => by simp only [eval]; rw [eval_agree a fun j hj => h j (by simp [E.asks, hj])]
  | .mn a b, h => by simp only [eval]; rw [eval_agree a fun j hj => h j (by simp [E.asks, hj]), eval_agree b fun j hj => h j (by simp [E.asks, hj])]
  | .mx a b, h => by simp only [eval]; rw [eval_agree a fun j hj => h j (by simp [E.asks, hj]), eval_agree b fun j hj => h j (by simp [E.asks, hj])]
  | .ext a i, h => by simp only [eval]; rw [eval_agree a fun j hj => h j (by simp [E.asks, hj])]
  | .idx a b k, h => by simp only [eval]; rw [eval_agree a fun j hj => h j (by simp [E.asks, hj]), eval_agree b fun j hj => h j (by simp [E.asks, hj])]
  | .fld a o, h => by simp only [eval]; rw [eval_agree a fun j hj => h j (by simp [E.asks, hj])]
  | .flds a o n, h => by simp only [eval]; rw [eval_agree a fun j hj => h j (by simp [E.asks, hj])]
  | .ai a b n k g, h => by simp only [eval]; rw [eval_agree a fun j hj => h j (by simp [E.asks, hj]), eval_agree b fun j hj => h j (by simp [E.asks, hj])]
  | .slc a b d k, h => by simp only [eval]; rw [eval_agree a fun j hj => h j (by simp [E.asks, hj]), eval_agree b fun j hj => h j (by simp [E.asks, hj]), eval_agree d fun j hj => h j (by simp [E.asks, hj])]
  | .slcl a b k, h => by simp only [eval]; rw [eval_agree a fun j hj => h j (by simp [E.asks, hj]), eval_agree b fun j hj => h j (by simp [E.asks, hj])]
  | .app a b k, h => by simp only [eval]; rw [eval_agree a fun j hj => h j (by simp [E.asks, hj]), eval_agree b fun j hj => h j (by simp [E.asks, hj])]
  | .upd a b o d, h => by simp only [eval]; rw [eval_agree a fun j hj => h j (by simp [E.asks, hj]), eval_agree b fun j hj => h j (by simp [E.asks, hj]), eval_agree d fun j hj => h j (by simp [E.asks, hj])]
  | .aput a b n k d, h => by simp only [eval]; rw [eval_agree a fun j hj => h j (by simp [E.asks, hj]), eval_agree b fun j hj => h j (by simp [E.asks, hj]), eval_agree d fun j hj => h j (by simp [E.asks, hj])]
  | .mk z a, h => by simp only [eval]; rw [eval_agree a fun j hj => h j (by simp [E.asks, hj])]
  | .lit l, h => by simp only [eval]; rw [evals_agree l fun j hj => h j (by simp [E.asks, hj])]
  | .ag l, h => by simp only [eval]; rw [evals_agree l fun j hj => h j (by simp [E.asks, hj])]
  | .ite a b d, h => by simp only [eval]; rw [eval_agree a fun j hj => h j (by simp [E.asks, hj]), eval_agree b fun j hj => h j (by simp [E.asks, hj]), eval_agree d fun j hj => h j (by simp [E.asks, hj])]
  | .star a, h => by simp only [eval]; rw [eval_agree a fun j hj => h j (by simp [E.asks, hj])]
  | .isag a, h => by simp only [eval]; rw [eval_agree a fun j hj => h j (by simp [E.asks, hj])]
  | .one a, h => by simp only [eval]; rw [eval_agree a fun j hj => h j (by simp [E.asks, hj])]
  | .sz a n, h => by simp only [eval]; rw [eval_agree a fun j hj => h j (by simp [E.asks, hj])]
  | .fl a, h => by simp only [eval]; rw [eval_agree a fun j hj => h j (by simp [E.asks, hj])]
  | .fls a, h => by simp only [eval]; rw [eval_agree a fun j hj => h j (by simp [E.asks, hj])]
  | .lk kc a b z ok, h => by simp only [eval]; rw [eval_agree a fun j hj => h j (by simp [E.asks, hj]), eval_agree b fun j hj => h j (by simp [E.asks, hj])]
  | .mput kc a b d, h => by simp only [eval]; rw [eval_agree a fun j hj => h j (by simp [E.asks, hj]), eval_agree b fun j hj => h j (by simp [E.asks, hj]), eval_agree d fun j hj => h j (by simp [E.asks, hj])]
  | .mlen a, h => by simp only [eval]; rw [eval_agree a fun j hj => h j (by simp [E.asks, hj])]
  | .mclr a, h => by simp only [eval]; rw [eval_agree a fun j hj => h j (by simp [E.asks, hj])]
theorem evals_agree {s t : St} : ∀ (l : List E), (∀ j, E.asksIn j l = true → get s j = get t j) → evals s l = evals t l
  | [], _ => rfl
  | e :: l, h => by simp only [evals]; rw [eval_agree e fun j hj => h j (by simp [E.asksIn, hj]), evals_agree l fun j hj => h j (by simp [E.asksIn, hj])]
end

mutual
theorem V.same_eq : ∀ (a b : V), V.same a b = true → a = b
  | .int k n, b, h => by
    cases b <;> simp only [V.same] at h <;> first | (cases h; done) | skip
    simp at h; rw [h.1, h.2]
  | .bool x, b, h => by
    cases b <;> simp only [V.same] at h <;> first | (cases h; done) | skip
    simp at h; rw [h]
  | .str x, b, h => by cases b <;> simp [V.same] at h
  | .sl l, b, h => by
    cases b <;> simp only [V.same] at h <;> first | (cases h; done) | skip
    rw [V.sames_eq l _ h]
  | .agg l, b, h => by
    cases b <;> simp only [V.same] at h <;> first | (cases h; done) | skip
    rw [V.sames_eq l _ h]
  | .tup l, b, h => by
    cases b <;> simp only [V.same] at h <;> first | (cases h; done) | skip
    rw [V.sames_eq l _ h]
  | .ptr l, b, h => by cases b <;> simp [V.same] at h
  | .fn f, b, h => by
    cases b <;> simp only [V.same] at h <;> first | (cases h; done) | skip
    simp at h; rw [h]
  | .mp id ks vs, b, h => by
    cases b <;> simp only [V.same, Bool.and_eq_true, beq_iff_eq] at h <;> first | (cases h; done) | skip
    rw [h.1.1, V.sames_eq ks _ h.1.2, V.sames_eq vs _ h.2]
theorem V.sames_eq : ∀ (a b : List V), V.sames a b = true → a = b
  | [], b, h => by cases b <;> simp [V.sames] at h ⊢
  | x :: l, b, h => by
    cases b with
    | nil => simp [V.sames] at h
    | cons y r =>
      simp only [V.sames, Bool.and_eq_true] at h
      rw [V.same_eq x y h.1, V.sames_eq l r h.2]
end
mutual
theorem E.same_eq : ∀ (a b : E), E.same a b = true → a = b
  | .c v, b, h => by
    cases b <;> simp only [E.same] at h <;> first | (cases h; done) | skip
    rw [V.same_eq v _ h]
  | .s u, b, h => by
    cases b <;> simp only [E.same, beq_iff_eq, Bool.and_eq_true] at h <;> first | (cases h; done) | skip
    rw [h]
  | .m u i, b, h => by
    cases b <;> simp only [E.same, beq_iff_eq, Bool.and_eq_true] at h <;> first | (cases h; done) | skip
    rw [h.1, h.2]
  | .mm u i n, b, h => by
    cases b <;> simp only [E.same, beq_iff_eq, Bool.and_eq_true] at h <;> first | (cases h; done) | skip
    rw [h.1.1, h.1.2, h.2]
  | .bin op x y, b, h => by
    cases b <;> simp only [E.same, decide_eq_true_eq, Bool.and_eq_true] at h <;> first | (cases h; done) | skip
    rw [h.1.1, E.same_eq x _ h.1.2, E.same_eq y _ h.2]
  | .eqv op x y, b, h => by
    cases b <;> simp only [E.same, beq_iff_eq, Bool.and_eq_true] at h <;> first | (cases h; done) | skip
    rw [h.1.1, E.same_eq x _ h.1.2, E.same_eq y _ h.2]
  | .un op x, b, h => by
    cases b <;> simp only [E.same, decide_eq_true_eq, Bool.and_eq_true] at h <;> first | (cases h; done) | skip
    rw [h.1, E.same_eq x _ h.2]
  | .conv k x, b, h => by
    cases b <;> simp only [E.same, decide_eq_true_eq, Bool.and_eq_true] at h <;> first | (cases h; done) | skip
    rw [h.1, E.same_eq x _ h.2]
  | .len x, b, h => by
    cases b <;> simp only [E.same] at h <;> first | (cases h; done) | skip
    rw [E.same_eq x _ h]
  | .mn x y, b, h => by
    cases b <;> simp only [E.same, Bool.and_eq_true] at h <;> first | (cases h; done) | skip
    rw [E.same_eq x _ h.1, E.same_eq y _ h.2]
  | .mx x y, b, h => by
    cases b <;> simp only [E.same, Bool.and_eq_true] at h <;> first | (cases h; done) | skip
    rw [E.same_eq x _ h.1, E.same_eq y _ h.2]
  | .ext x i, b, h => by
    cases b <;> simp only [E.same, beq_iff_eq, Bool.and_eq_true] at h <;> first | (cases h; done) | skip
    rw [E.same_eq x _ h.1, h.2]
  | .idx x y k, b, h => by
    cases b <;> simp only [E.same, beq_iff_eq, Bool.and_eq_true] at h <;> first | (cases h; done) | skip
    rw [E.same_eq x _ h.1.1, E.same_eq y _ h.1.2, h.2]
  | .fld x o, b, h => by
    cases b <;> simp only [E.same, beq_iff_eq, Bool.and_eq_true] at h <;> first | (cases h; done) | skip
    rw [E.same_eq x _ h.1, h.2]
  | .flds x o n, b, h => by
    cases b <;> simp only [E.same, beq_iff_eq, Bool.and_eq_true] at h <;> first | (cases h; done) | skip
    rw [E.same_eq x _ h.1.1, h.1.2, h.2]
  | .ai x y n k g, b, h => by
    cases b <;> simp only [E.same, beq_iff_eq, Bool.and_eq_true] at h <;> first | (cases h; done) | skip
    rw [E.same_eq x _ h.1.1.1.1, E.same_eq y _ h.1.1.1.2, h.1.1.2, h.1.2, h.2]
  | .slc x y z k, b, h => by
    cases b <;> simp only [E.same, beq_iff_eq, Bool.and_eq_true] at h <;> first | (cases h; done) | skip
    rw [E.same_eq x _ h.1.1.1, E.same_eq y _ h.1.1.2, E.same_eq z _ h.1.2, h.2]
  | .slcl x y k, b, h => by
    cases b <;> simp only [E.same, beq_iff_eq, Bool.and_eq_true] at h <;> first | (cases h; done) | skip
    rw [E.same_eq x _ h.1.1, E.same_eq y _ h.1.2, h.2]
  | .app x y k, b, h => by
    cases b <;> simp only [E.same, beq_iff_eq, Bool.and_eq_true] at h <;> first | (cases h; done) | skip
    rw [E.same_eq x _ h.1.1, E.same_eq y _ h.1.2, h.2]
  | .upd x y o z, b, h => by
    cases b <;> simp only [E.same, beq_iff_eq, Bool.and_eq_true] at h <;> first | (cases h; done) | skip
    rw [E.same_eq x _ h.1.1.1, E.same_eq y _ h.1.1.2, h.1.2, E.same_eq z _ h.2]
  | .aput x y n k z, b, h => by
    cases b <;> simp only [E.same, beq_iff_eq, Bool.and_eq_true] at h <;> first | (cases h; done) | skip
    rw [E.same_eq x _ h.1.1.1.1, E.same_eq y _ h.1.1.1.2, h.1.1.2, h.1.2, E.same_eq z _ h.2]
  | .mk v x, b, h => by
    cases b <;> simp only [E.same, Bool.and_eq_true] at h <;> first | (cases h; done) | skip
    rw [V.same_eq v _ h.1, E.same_eq x _ h.2]
  | .lit l, b, h => by
    cases b <;> simp only [E.same] at h <;> first | (cases h; done) | skip
    rw [E.sames_eq l _ h]
  | .ag l, b, h => by
    cases b <;> simp only [E.same] at h <;> first | (cases h; done) | skip
    rw [E.sames_eq l _ h]
  | .ite x y z, b, h => by
    cases b <;> simp only [E.same, Bool.and_eq_true] at h <;> first | (cases h; done) | skip
    rw [E.same_eq x _ h.1.1, E.same_eq y _ h.1.2, E.same_eq z _ h.2]
  | .star x, b, h => by
    cases b <;> simp only [E.same] at h <;> first | (cases h; done) | skip
    rw [E.same_eq x _ h]
  | .isag x, b, h => by
    cases b <;> simp only [E.same] at h <;> first | (cases h; done) | skip
    rw [E.same_eq x _ h]
  | .one x, b, h => by
    cases b <;> simp only [E.same] at h <;> first | (cases h; done) | skip
    rw [E.same_eq x _ h]
  | .sz x n, b, h => by
    cases b <;> simp only [E.same, beq_iff_eq, Bool.and_eq_true] at h <;> first | (cases h; done) | skip
    rw [E.same_eq x _ h.1, h.2]
  | .fl x, b, h => by
    cases b <;> simp only [E.same] at h <;> first | (cases h; done) | skip
    rw [E.same_eq x _ h]
  | .fls x, b, h => by
    cases b <;> simp only [E.same] at h <;> first | (cases h; done) | skip
    rw [E.same_eq x _ h]
  | .lk kc x y z ok, b, h => by
    cases b <;> simp only [E.same, beq_iff_eq, decide_eq_true_eq, Bool.and_eq_true] at h <;> first | (cases h; done) | skip
    rw [h.1.1.1.1, E.same_eq x _ h.1.1.1.2, E.same_eq y _ h.1.1.2, V.same_eq z _ h.1.2, h.2]
  | .mput kc x y z, b, h => by
    cases b <;> simp only [E.same, decide_eq_true_eq, Bool.and_eq_true] at h <;> first | (cases h; done) | skip
    rw [h.1.1.1, E.same_eq x _ h.1.1.2, E.same_eq y _ h.1.2, E.same_eq z _ h.2]
  | .mlen x, b, h => by
    cases b <;> simp only [E.same] at h <;> first | (cases h; done) | skip
    rw [E.same_eq x _ h]
  | .mclr x, b, h => by
    cases b <;> simp only [E.same] at h <;> first | (cases h; done) | skip
    rw [E.same_eq x _ h]
theorem E.sames_eq : ∀ (a b : List E), E.sames a b = true → a = b
  | [], b, h => by cases b <;> simp [E.sames] at h ⊢
  | x :: l, b, h => by
    cases b with
    | nil => simp [E.sames] at h
    | cons y r =>
      simp only [E.sames, Bool.and_eq_true] at h
      rw [E.same_eq x y h.1, E.sames_eq l r h.2]
end
end Vm
