/- LocksPlay, the plain law: the reference's bank is the program's, and each call does the same to both. -/
import Derived.Test.YtloifnnofldgmaaOneLaw
import Derived.Test.YtloifnnofldgmaaPLocksPlayx1
import Derived.Test.YtloifnnofldgmaaPLocksPlayx3
namespace Go.Proofs.Ytloifnnofldgmaa.Locks
set_option linter.unusedVariables false
set_option linter.unusedSimpArgs false
open Go.RowKit Go.Proofs.Ytloifnnofldgmaa.PLocksPlay Go.Proofs.YtloifnnofldgmaaW.PrintWords

/-- The reference's owners. -/
def abs (k : Bk) : List Int := (List.range k.n.toNat).map fun j => k.own.getD j 0 - 1

theorem abs_len (k : Bk) : (abs k).length = k.n.toNat := by simp [abs]
theorem abs_at (k : Bk) (j : Nat) (h : j < k.n.toNat) : (abs k).getD j 0 = k.own.getD j 0 - 1 := by
  simp [abs, List.getD_eq_getElem?_getD, h]
theorem abs_ext (k : Bk) (l : List Int) (hl : l.length = k.n.toNat) (h : ∀ j, j < k.n.toNat → l.getD j 0 = k.own.getD j 0 - 1) : l = abs k := by
  apply List.ext_getElem
  · rw [hl, abs_len]
  · intro j h1 h2
    have := h j (by omega)
    rw [← abs_at k j (by omega)] at this
    simpa [List.getD_eq_getElem?_getD, h1, h2] using this

/-- Besides: an owner is a core, and behind the last lock is nothing. -/
structure Bk.Fit (k : Bk) : Prop where
  ok : k.Ok
  top : ∀ j : Nat, k.own.getD j 0 ≤ k.cores
  end_ : ∀ j : Nat, k.n ≤ (j : Int) → k.own.getD j 0 = 0

theorem new_fit {c n : Int} (h : isNew c n) : (newBk c n).Fit := by
  have e : ∀ m, (newBk c n).own.getD m 0 = 0 := fun m => by
    unfold newBk
    simp only [List.getD_eq_getElem?_getD, List.getElem?_replicate]
    split <;> rfl
  refine ⟨newBk_ok h, fun j => ?_, fun j _ => e j⟩
  rw [e]
  have := h.1
  show 0 ≤ c
  omega

theorem put_fit {k : Bk} (f : k.Fit) (j : Nat) (x : Int) (hj : (j : Int) < k.n) (h0 : 0 ≤ x) (h1 : x ≤ k.cores) : (k.put j x).Fit := by
  have hn := f.ok.n1
  have hc := f.ok.c1
  refine ⟨f.ok.put j x h0 (by omega), fun m => ?_, fun m hm => ?_⟩
  · rw [put_at f.ok j m x (by omega)]
    split
    · exact h1
    · exact f.top m
  · rw [put_at f.ok j m x (by omega)]
    have : k.n ≤ (m : Int) := hm
    rw [if_neg (by omega)]
    exact f.end_ m this

theorem less_at {k : Bk} (l : List Int) (m : Nat) (hl : ∀ x ∈ l, ∃ j : Nat, x = (j : Int)) : (k.less l).own.getD m 0 = if (m : Int) ∈ l then 0 else k.own.getD m 0 := without_at l m hl k.own

theorem less_fit {k : Bk} (f : k.Fit) (l : List Int) (hl : ∀ x ∈ l, ∃ j : Nat, x = (j : Int)) : (k.less l).Fit := by
  refine ⟨⟨f.ok.c0, f.ok.c1, f.ok.n0, f.ok.n1, by show (without _ _).length = 16; rw [without_len]; exact f.ok.len, without_mem _ _ f.ok.rng⟩, fun m => ?_, fun m hm => ?_⟩
  · rw [less_at l m hl]
    split
    · have := f.ok.c0; show 0 ≤ k.cores; omega
    · exact f.top m
  · rw [less_at l m hl]
    split
    · rfl
    · exact f.end_ m hm

theorem doR_fit {k : Bk} (f : k.Fit) (kind c i : Int) : (doR k kind c i).1.Fit := by
  unfold doR tryR freeR relR
  split
  · split
    · rename_i hb
      obtain ⟨h1, h2, h3, h4⟩ := both_in hb
      split
      · exact put_fit f _ _ (by omega) (by omega) (by omega)
      · exact f
    · exact f
  · split
    · split
      · rename_i hb
        obtain ⟨h1, h2, h3, h4⟩ := both_in hb
        split
        · exact put_fit f _ _ (by omega) (by omega) (by have := f.ok.c0; omega)
        · exact f
      · exact f
    · split
      · split
        · exact less_fit f _ fun x hx => by
            unfold heldR at hx
            by_cases hq : coreE k.cores c = 0
            · rw [if_pos hq] at hx
              obtain ⟨j, -, h, -⟩ := heldTo_mem _ _ _ _ hx
              exact ⟨j, h⟩
            · rw [if_neg hq] at hx
              exact absurd hx (List.not_mem_nil)
        · exact f
      · exact f

/-- Behind the last lock is nothing to find. -/
theorem heldTo_end {k : Bk} (f : k.Fit) (c : Int) (hc : 0 ≤ c) (d : Nat) : heldTo k.own c (k.n.toNat + d) = heldTo k.own c k.n.toNat := by
  induction d with
  | zero => rfl
  | succ d ih =>
    rw [← Nat.add_assoc, heldTo_no _ _ _ ?_, ih]
    have hn := f.ok.n0
    rw [f.end_ (k.n.toNat + d) (by omega)]
    omega

/-- What is found at m comes next. -/
theorem heldTo_next (own : List Int) (c : Int) (m : Nat) : ∀ (d n : Nat), m + d + 1 = n → own.getD m 0 = c + 1 → (heldTo own c m).length < (heldTo own c n).length ∧ (heldTo own c n)[(heldTo own c m).length]? = some (m : Int) := by
  intro d
  induction d with
  | zero =>
    intro n hn h
    subst hn
    rw [Nat.add_zero, heldTo_yes own c m h]
    simp
  | succ d ih =>
    intro n hn h
    obtain ⟨h1, h2⟩ := ih (m + d + 1) rfl h
    subst hn
    rw [show m + (d + 1) + 1 = (m + d + 1) + 1 by omega]
    by_cases hx : own.getD (m + d + 1) 0 = c + 1
    · rw [heldTo_yes own c _ hx, List.getElem?_append_left h1]
      exact ⟨by simp; omega, h2⟩
    · rw [heldTo_no own c _ hx]
      exact ⟨h1, h2⟩

theorem held_eq (k : Bk) (f : k.Fit) (c : Int) (K : Nat) (hK : 20 ≤ K) : switchyardref10_Held.f K k.cores (abs k) c = some (heldR k c) := by
  have hn0 := f.ok.n0
  have hn1 := f.ok.n1
  have key : ∀ (d K m : Nat) , m + d = k.n.toNat → d < K → ∀ acc : List Int, acc.length ≤ m →
      switchyardref10_Held.l0 K c acc (m : Int) k.cores (abs k) = some (acc ++ (if 0 ≤ c then (heldTo k.own c k.n.toNat).drop (heldTo k.own c m).length else [])) := by
    intro d
    induction d with
    | zero =>
      intro K m hm hK acc ha
      obtain ⟨K, rfl⟩ : ∃ q, K = q + 1 := ⟨K - 1, by omega⟩
      have : m = k.n.toNat := by omega
      subst this
      simp only [switchyardref10_Held.l0]
      rw [if_neg (by rw [abs_len]; omega)]
      split <;> simp
    | succ d ih =>
      intro K m hm hK acc ha
      obtain ⟨K, rfl⟩ : ∃ q, K = q + 1 := ⟨K - 1, by omega⟩
      have hm' : m < k.n.toNat := by omega
      simp only [switchyardref10_Held.l0]
      rw [if_pos (by rw [abs_len]; omega), if_pos (by omega)]
      have e1 : wrap64 ((m : Int) + 1) = ((m + 1 : Nat) : Int) := by unfold wrap64; omega
      have e2 : rd (abs k) (m : Int) = k.own.getD m 0 - 1 := by unfold rd; rw [Int.toNat_natCast]; exact abs_at k m hm'
      rw [e1, e2, if_pos (by omega : acc.length < 17592186044416)]
      by_cases hx : k.own.getD m 0 - 1 = c
      · rw [if_pos hx]
        by_cases hc : c ≥ 0
        · rw [if_pos hc, ih K (m + 1) (by omega) (by omega) _ (by simp; omega)]
          have hy := heldTo_yes k.own c m (by omega)
          have hlt : (heldTo k.own c m).length < (heldTo k.own c k.n.toNat).length ∧ (heldTo k.own c k.n.toNat)[(heldTo k.own c m).length]? = some (m : Int) := heldTo_next k.own c m d (k.n.toNat) (by omega) (by omega)
          obtain ⟨h1, h2⟩ := hlt
          rw [if_pos hc, if_pos hc, hy, List.length_append, List.append_assoc]
          congr 2
          rw [List.drop_eq_getElem_cons h1]
          rw [List.getElem?_eq_getElem h1] at h2
          injection h2 with h2
          rw [h2]
          rfl
        · rw [if_neg hc, ih K (m + 1) (by omega) (by omega) _ (by omega), if_neg hc, if_neg hc]
      · rw [if_neg hx, ih K (m + 1) (by omega) (by omega) _ (by omega), heldTo_no k.own c m (by omega)]
  unfold switchyardref10_Held.f
  have := key k.n.toNat K 0 (by omega) (by omega) [] (by simp)
  rw [show ((0 : Nat) : Int) = 0 from rfl] at this
  rw [this]
  congr 1
  rw [heldTo_zero]
  simp only [List.nil_append, List.length_nil, List.drop_zero]
  unfold heldR coreE
  by_cases hc : 0 ≤ c
  · rw [if_pos hc]
    have he := heldTo_end f c hc (16 - k.n.toNat)
    rw [show k.n.toNat + (16 - k.n.toNat) = 16 by omega] at he
    by_cases h2 : c < k.cores
    · rw [if_pos (show 0 ≤ c ∧ c < k.cores from ⟨hc, h2⟩), if_pos rfl, he]
    · rw [if_neg (show ¬ (0 ≤ c ∧ c < k.cores) by omega), if_neg (show ¬ ((3 : Int) = 0) by decide)]
      apply List.eq_nil_iff_forall_not_mem.2
      intro x hx
      obtain ⟨j, -, -, h⟩ := heldTo_mem _ _ _ _ hx
      have := f.top j
      omega
  · rw [if_neg hc, if_neg (show ¬ (0 ≤ c ∧ c < k.cores) by omega), if_neg (show ¬ ((3 : Int) = 0) by decide)]

end Go.Proofs.Ytloifnnofldgmaa.Locks
