/- LocksOne, the plain law: what a call does to the owner of one lock. -/
import Derived.Test.YtloifnnofldgmaaAlive
namespace Go.Proofs.Ytloifnnofldgmaa.Locks
set_option linter.unusedVariables false
set_option linter.unusedSimpArgs false
open Go.RowKit

theorem put_at {k : Bk} (ok : k.Ok) (j m : Nat) (x : Int) (hj : j < 16) : (k.put j x).own.getD m 0 = if j = m then x else k.own.getD m 0 := by
  have hl := ok.len
  unfold Bk.put
  simp only [List.getD_eq_getElem?_getD, List.getElem?_set]
  by_cases h : j = m
  · subst h
    rw [if_pos rfl, if_pos (by omega), if_pos rfl]
    rfl
  · rw [if_neg h, if_neg h]

theorem without_at (l : List Int) (m : Nat) (hl : ∀ x ∈ l, ∃ j : Nat, x = (j : Int)) : ∀ own : List Int, (without own l).getD m 0 = if (m : Int) ∈ l then 0 else own.getD m 0 := by
  induction l with
  | nil => intro own; rfl
  | cons x l ih =>
    intro own
    obtain ⟨j, rfl⟩ := hl x (by simp)
    show (without (own.set (j : Int).toNat 0) l).getD m 0 = _
    rw [ih (fun y hy => hl y (by simp [hy])), Int.toNat_natCast]
    by_cases h : (m : Int) ∈ l
    · rw [if_pos h, if_pos (by simp [h])]
    · rw [if_neg h]
      by_cases hj : j = m
      · subst hj
        rw [if_pos (by simp)]
        by_cases hl2 : j < own.length
        · simp [hl2]
        · simp [List.getD_eq_getElem?_getD, List.getElem?_set, hl2]
      · rw [if_neg (by simp only [List.mem_cons, not_or]; exact ⟨by omega, h⟩)]
        simp only [List.getD_eq_getElem?_getD, List.getElem?_set, if_neg hj]

theorem heldTo_iff (own : List Int) (c : Int) (m n : Nat) : (n : Int) ∈ heldTo own c m ↔ n < m ∧ own.getD n 0 = c + 1 := by
  unfold heldTo
  simp only [List.mem_map, List.mem_filter, List.mem_range, beq_iff_eq]
  constructor
  · rintro ⟨j, ⟨h1, h2⟩, h3⟩
    have : j = n := by omega
    subst this
    exact ⟨h1, h2⟩
  · rintro ⟨h1, h2⟩
    exact ⟨n, ⟨h1, h2⟩, rfl⟩

theorem rel_at {k : Bk} (c : Int) (m : Nat) (hm : m < 16) (hc : coreE k.cores c = 0) : (relR k c).1.own.getD m 0 = if k.own.getD m 0 = c + 1 then 0 else k.own.getD m 0 := by
  unfold relR heldR
  rw [if_pos hc, if_pos hc]
  show (without k.own (heldTo k.own c 16)).getD m 0 = _
  rw [without_at _ _ (fun x hx => by obtain ⟨j, -, h, -⟩ := heldTo_mem _ _ _ _ hx; exact ⟨j, h⟩)]
  by_cases h : k.own.getD m 0 = c + 1
  · rw [if_pos h, if_pos ((heldTo_iff _ _ _ _).2 ⟨hm, h⟩)]
  · rw [if_neg h, if_neg (fun g => h ((heldTo_iff _ _ _ _).1 g).2)]

theorem doR_n (k : Bk) (kind c i : Int) : (doR k kind c i).1.n = k.n := by
  unfold doR tryR freeR relR
  repeat' split
  all_goals rfl

/-- What a Try does to lock m. -/
theorem step0 {k : Bk} (ok : k.Ok) (c l : Int) (m : Nat) (hm : (m : Int) < k.n) (owner : Int) (ho : k.own.getD m 0 = owner + 1) (x e : Int) (hx : (doR k 0 c l).2 = (x, e)) :
    ((doR k 0 c l).1.own.getD m 0 = c + 1 ∧ l = m ∧ e = 0 ∧ x = 1 ∧ owner = -1) ∨ ((doR k 0 c l).1.own.getD m 0 = owner + 1 ∧ ((l = m ∧ e = 0 ∧ x = 0 ∧ 0 ≤ owner) ∨ (l = m ∧ e ≠ 0) ∨ l ≠ m)) := by
  have hn := ok.n1
  have hg := ok.get m (by omega)
  unfold doR at *
  simp only [if_true] at *
  unfold tryR at *
  by_cases hb : bothE k c l = 0
  · obtain ⟨b1, b2, b3, b4⟩ := both_in hb
    obtain ⟨j, rfl⟩ := Int.eq_ofNat_of_zero_le b3
    rw [if_pos hb] at hx ⊢
    rw [Int.toNat_natCast] at hx ⊢
    by_cases hj : k.own.getD j 0 = 0
    · rw [if_pos hj] at hx ⊢
      simp only [if_true, Prod.mk.injEq] at hx
      rw [put_at ok j m _ (by omega)]
      by_cases hjm : j = m
      · subst hjm
        exact .inl ⟨by rw [if_pos rfl], rfl, hx.2.symm, hx.1.symm, by omega⟩
      · exact .inr ⟨by rw [if_neg hjm]; exact ho, .inr (.inr (by omega))⟩
    · rw [if_neg hj] at hx ⊢
      simp only [Bool.false_eq_true, if_false, Prod.mk.injEq] at hx
      refine .inr ⟨ho, ?_⟩
      by_cases hjm : j = m
      · subst hjm
        exact .inl ⟨rfl, hx.2.symm, hx.1.symm, by omega⟩
      · exact .inr (.inr (by omega))
  · rw [if_neg hb] at hx ⊢
    simp only [Bool.false_eq_true, if_false, Prod.mk.injEq] at hx
    refine .inr ⟨ho, ?_⟩
    by_cases hl : l = m
    · exact .inr (.inl ⟨hl, by rw [← hx.2]; exact hb⟩)
    · exact .inr (.inr hl)

/-- What a Free does to lock m. -/
theorem step1 {k : Bk} (ok : k.Ok) (c l : Int) (m : Nat) (hm : (m : Int) < k.n) (owner : Int) (ho : k.own.getD m 0 = owner + 1) (x e : Int) (hx : (doR k 1 c l).2 = (x, e)) :
    ((doR k 1 c l).1.own.getD m 0 = 0 ∧ l = m ∧ e = 0 ∧ owner = c) ∨ ((doR k 1 c l).1.own.getD m 0 = owner + 1 ∧ ((l = m ∧ e ≠ 0) ∨ l ≠ m)) := by
  have hn := ok.n1
  have hg := ok.get m (by omega)
  have e1 : doR k 1 c l = ((freeR k c l).1, 0, (freeR k c l).2) := rfl
  rw [e1] at hx ⊢
  unfold freeR at *
  by_cases hb : bothE k c l = 0
  · obtain ⟨b1, b2, b3, b4⟩ := both_in hb
    obtain ⟨j, rfl⟩ := Int.eq_ofNat_of_zero_le b3
    rw [if_pos hb] at hx ⊢
    rw [Int.toNat_natCast] at hx ⊢
    by_cases hj : k.own.getD j 0 = c + 1
    · rw [if_pos hj] at hx ⊢
      simp only [Prod.mk.injEq] at hx
      rw [put_at ok j m _ (by omega)]
      by_cases hjm : j = m
      · subst hjm
        exact .inl ⟨by rw [if_pos rfl], rfl, hx.2.symm, by omega⟩
      · exact .inr ⟨by rw [if_neg hjm]; exact ho, .inr (by omega)⟩
    · rw [if_neg hj] at hx ⊢
      simp only [Prod.mk.injEq] at hx
      refine .inr ⟨ho, ?_⟩
      by_cases hjm : j = m
      · exact .inl ⟨by omega, by omega⟩
      · exact .inr (by omega)
  · rw [if_neg hb] at hx ⊢
    simp only [Prod.mk.injEq] at hx
    refine .inr ⟨ho, ?_⟩
    by_cases hl : l = m
    · exact .inl ⟨hl, by rw [← hx.2]; exact hb⟩
    · exact .inr hl

/-- What a Release does to lock m. -/
theorem step3 {k : Bk} (ok : k.Ok) (c l : Int) (m : Nat) (hm : (m : Int) < k.n) (owner : Int) (ho : k.own.getD m 0 = owner + 1) (x e : Int) (hx : (doR k 3 c l).2 = (x, e)) :
    ((doR k 3 c l).1.own.getD m 0 = 0 ∧ e = 0 ∧ owner = c) ∨ ((doR k 3 c l).1.own.getD m 0 = owner + 1 ∧ ((e = 0 ∧ owner ≠ c) ∨ e ≠ 0)) := by
  have hn := ok.n1
  have e1 : doR k 3 c l = relR k c := rfl
  rw [e1] at hx ⊢
  by_cases hc : coreE k.cores c = 0
  · rw [rel_at c m (by omega) hc]
    unfold relR at hx
    rw [if_pos hc] at hx
    simp only [Prod.mk.injEq] at hx
    by_cases hj : k.own.getD m 0 = c + 1
    · exact .inl ⟨by rw [if_pos hj], hx.2.symm, by omega⟩
    · exact .inr ⟨by rw [if_neg hj]; exact ho, .inl ⟨hx.2.symm, by omega⟩⟩
  · unfold relR at hx ⊢
    rw [if_neg hc] at hx ⊢
    simp only [Prod.mk.injEq] at hx
    exact .inr ⟨ho, .inr (by rw [← hx.2]; exact hc)⟩

/-- What any other call does to lock m. -/
theorem stepx {k : Bk} (kind c l : Int) (m : Nat) (owner : Int) (ho : k.own.getD m 0 = owner + 1) (h0 : kind ≠ 0) (h1 : kind ≠ 1) (h3 : kind ≠ 3) : (doR k kind c l).1.own.getD m 0 = owner + 1 := by
  unfold doR
  rw [if_neg h0, if_neg h1, if_neg h3]
  exact ho

end Go.Proofs.Ytloifnnofldgmaa.Locks
