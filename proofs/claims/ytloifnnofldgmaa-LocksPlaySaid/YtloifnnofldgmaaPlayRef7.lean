/- Locks: the contract of the reference's Do, whichever the call. -/
import Derived.Test.YtloifnnofldgmaaPlayRef6
namespace Go.Proofs.Ytloifnnofldgmaa.Locks
set_option linter.unusedVariables false
set_option linter.unusedSimpArgs false
open Go.RowKit Go.Proofs.Ytloifnnofldgmaa.PLocksPlay Go.Proofs.YtloifnnofldgmaaW.PrintWords

theorem ref_any (k : Bk) (f : k.Fit) (kind c i : Int) (v : Value) (B : Nat) (w : World) (hs : Sl w B v (abs k)) (hB : B ≤ w.heap.size) :
    Calls Try.prog 13 #[.agg #[.int .i64 k.cores, v], .agg #[.int .i64 kind, .int .i64 c, .int .i64 i]] w fun e w' => ∃ v', e = .returned (.tuple #[.agg #[.int .i64 k.cores, v'], .int .i64 (doR k kind c i).2.1, .int .i64 (doR k kind c i).2.2]) ∧ Sl w' B v' (abs (doR k kind c i).1) ∧ Below w.heap.size w w' := by
  by_cases hc : 0 ≤ c ∧ c < k.cores
  · have hcE : coreE k.cores c = 0 := by unfold coreE; rw [if_pos hc]
    by_cases h3 : kind = 3
    · subst h3
      have e : doR k 3 c i = (k.less (heldR k c), ((heldR k c).length : Int), 0) := by
        unfold doR
        rw [if_neg (by decide), if_neg (by decide), if_pos rfl]
        unfold relR
        rw [if_pos hcE]
      rw [e]
      exact ref_rel k f c i v B w hs hB hc.1 hc.2
    · by_cases hl : 0 ≤ i ∧ i < k.n
      · have hlE : lockE k.n i = 0 := by unfold lockE; rw [if_pos hl]
        have hbE : bothE k c i = 0 := by unfold bothE; rw [if_pos hcE]; exact hlE
        by_cases h0 : kind = 0
        · subst h0
          have e : doR k 0 c i = ((tryR k c i).1, (if (tryR k c i).2.1 = true then 1 else 0), (tryR k c i).2.2) := rfl
          by_cases ho : k.own.getD i.toNat 0 = 0
          · have e2 : tryR k c i = (k.put i.toNat (c + 1), true, 0) := by unfold tryR; rw [if_pos hbE, if_pos ho]
            rw [e, e2]
            exact ref_got k f c i v B w hs hB hc.1 hc.2 hl.1 hl.2 ho
          · have e2 : tryR k c i = (k, false, 0) := by unfold tryR; rw [if_pos hbE, if_neg ho]
            rw [e, e2]
            exact ref_try k f c i v B w hs hB hc.1 hc.2 hl.1 hl.2 ho
        · by_cases h1 : kind = 1
          · subst h1
            have e : doR k 1 c i = ((freeR k c i).1, 0, (freeR k c i).2) := rfl
            by_cases ho : k.own.getD i.toNat 0 = c + 1
            · have e2 : freeR k c i = (k.put i.toNat 0, 0) := by unfold freeR; rw [if_pos hbE, if_pos ho]
              rw [e, e2]
              exact ref_free k f 1 c i v B w hs hB hl.1 hl.2 hc.1 hc.2 ho
            · have e2 : freeR k c i = (k, 12) := by unfold freeR; rw [if_pos hbE, if_neg ho]
              rw [e, e2]
              exact ref_keep k f 1 c i v B w hs hB hl.1 hl.2 hc.1 hc.2 ho
          · have e : doR k kind c i = (k, ownerR k i, lockE k.n i) := by unfold doR; rw [if_neg h0, if_neg h1, if_neg h3]
            have e2 : ownerR k i = k.own.getD i.toNat 0 - 1 := by unfold ownerR; rw [if_pos hlE]
            rw [e, e2, hlE]
            exact ref_owner k f kind c i v B w hs hB hl.1 hl.2 h0 h1 h3
      · have hlE : lockE k.n i = 2 := by unfold lockE; rw [if_neg hl]
        have hbE : bothE k c i = 2 := by unfold bothE; rw [if_pos hcE]; exact hlE
        have e : doR k kind c i = (k, 0, 2) := by
          unfold doR tryR freeR ownerR
          rw [if_neg h3, hbE, hlE]
          by_cases h0 : kind = 0
          · rw [if_pos h0]; rfl
          · by_cases h1 : kind = 1
            · rw [if_neg h0, if_pos h1]; rfl
            · rw [if_neg h0, if_neg h1]; rfl
        rw [e]
        refine ref_lock k f kind c i v B w hs hB ?_ hl
        by_cases h0 : kind = 0
        · exact .inl ⟨.inl h0, hc⟩
        · by_cases h1 : kind = 1
          · exact .inl ⟨.inr h1, hc⟩
          · exact .inr ⟨h0, h1, h3⟩
  · have hcE : coreE k.cores c = 3 := by unfold coreE; rw [if_neg hc]
    have hbE : bothE k c i = 3 := by unfold bothE; rw [hcE]; rfl
    by_cases hk : kind = 0 ∨ kind = 1 ∨ kind = 3
    · have e : doR k kind c i = (k, 0, 3) := by
        unfold doR tryR freeR relR
        rw [hbE, hcE]
        rcases hk with rfl | rfl | rfl <;> rfl
      rw [e]
      exact ref_core k f kind c i v B w hs hB hk hc
    · have h0 : kind ≠ 0 := fun h => hk (.inl h)
      have h1 : kind ≠ 1 := fun h => hk (.inr (.inl h))
      have h3 : kind ≠ 3 := fun h => hk (.inr (.inr h))
      have e : doR k kind c i = (k, ownerR k i, lockE k.n i) := by unfold doR; rw [if_neg h0, if_neg h1, if_neg h3]
      rw [e]
      by_cases hl : 0 ≤ i ∧ i < k.n
      · have hlE : lockE k.n i = 0 := by unfold lockE; rw [if_pos hl]
        have e2 : ownerR k i = k.own.getD i.toNat 0 - 1 := by unfold ownerR; rw [if_pos hlE]
        rw [e2, hlE]
        exact ref_owner k f kind c i v B w hs hB hl.1 hl.2 h0 h1 h3
      · have hlE : lockE k.n i = 2 := by unfold lockE; rw [if_neg hl]
        have e2 : ownerR k i = 0 := by unfold ownerR; rw [hlE]; rfl
        rw [e2, hlE]
        exact ref_lock k f kind c i v B w hs hB (.inr ⟨h0, h1, h3⟩) hl

end Go.Proofs.Ytloifnnofldgmaa.Locks
