/- Locks: the contract of the reference's Do. -/
import Derived.Test.YtloifnnofldgmaaPlaySl
import Derived.BigQuiet
namespace Go.Proofs.Ytloifnnofldgmaa.Locks
set_option linter.unusedVariables false
set_option linter.unusedSimpArgs false
open Go.RowKit Go.Proofs.Ytloifnnofldgmaa.PLocksPlay Go.Proofs.YtloifnnofldgmaaW.PrintWords

theorem three (w : World) (a b c : Obj) : Below w.heap.size w (((w.alloc a).alloc b).alloc c) :=
  (((Below.refl _ _).alloc (Nat.le_refl _) _).alloc (by simp) _).alloc (by simp; omega) _

theorem third (w : World) (a b c : Obj) : (((w.alloc a).alloc b).alloc c).heap[w.heap.size + 1 + 1]? = some c := by
  rw [show w.heap.size + 1 + 1 = ((w.alloc a).alloc b).heap.size by simp]
  exact heap_alloc_new _ _

set_option maxHeartbeats 2000000 in
theorem ref_core (k : Bk) (f : k.Fit) (kind c i : Int) (v : Value) (B : Nat) (w : World) (hs : Sl w B v (abs k)) (hB : B ≤ w.heap.size) (hk : kind = 0 ∨ kind = 1 ∨ kind = 3) (hc : ¬ (0 ≤ c ∧ c < k.cores)) :
    Calls Try.prog 13 #[.agg #[.int .i64 k.cores, v], .agg #[.int .i64 kind, .int .i64 c, .int .i64 i]] w fun e w' => ∃ v', e = .returned (.tuple #[.agg #[.int .i64 k.cores, v'], .int .i64 0, .int .i64 3]) ∧ Sl w' B v' (abs k) ∧ Below w.heap.size w w' := by
  obtain ⟨A, cap, rfl, hcap, hC⟩ := hs.open_
  have HL := Lib.hid (abs_len k)
  rcases hk with rfl | rfl | rfl
  all_goals
    by_cases hi : i < 0
    · by_cases hc0 : c < 0
      · clear hc
        go_enter Try.func13, Try.ntmps13
        go_wp2_with fail
        refine bodyPost_ret (results_ctt rfl _ _ (w.heap.size + 1 + 1) 38 #[.int .i64 k.cores, .slice A (abs k).length cap] (0, 0) _ rfl (third _ _ _ _) Try.underlying38 rfl (by kernel_rfl)) rfl ?_
        exact ⟨_, rfl, hs.below (three _ _ _ _), three _ _ _ _⟩
      · have hc1 : decide (c < k.cores) = false := by rw [decide_eq_false_iff_not]; omega
        clear hc
        go_enter Try.func13, Try.ntmps13
        go_wp2_with fail
        refine bodyPost_ret (results_ctt rfl _ _ (w.heap.size + 1 + 1) 38 #[.int .i64 k.cores, .slice A (abs k).length cap] (0, 0) _ rfl (third _ _ _ _) Try.underlying38 rfl (by kernel_rfl)) rfl ?_
        exact ⟨_, rfl, hs.below (three _ _ _ _), three _ _ _ _⟩
    · by_cases hc0 : c < 0
      · clear hc
        go_enter Try.func13, Try.ntmps13
        go_wp2_with fail
        refine bodyPost_ret (results_ctt rfl _ _ (w.heap.size + 1 + 1) 38 #[.int .i64 k.cores, .slice A (abs k).length cap] (0, 0) _ rfl (third _ _ _ _) Try.underlying38 rfl (by kernel_rfl)) rfl ?_
        exact ⟨_, rfl, hs.below (three _ _ _ _), three _ _ _ _⟩
      · have hc1 : decide (c < k.cores) = false := by rw [decide_eq_false_iff_not]; omega
        clear hc
        go_enter Try.func13, Try.ntmps13
        go_wp2_with fail
        refine bodyPost_ret (results_ctt rfl _ _ (w.heap.size + 1 + 1) 38 #[.int .i64 k.cores, .slice A (abs k).length cap] (0, 0) _ rfl (third _ _ _ _) Try.underlying38 rfl (by kernel_rfl)) rfl ?_
        exact ⟨_, rfl, hs.below (three _ _ _ _), three _ _ _ _⟩

set_option maxHeartbeats 2000000 in
theorem ref_lock (k : Bk) (f : k.Fit) (kind c i : Int) (v : Value) (B : Nat) (w : World) (hs : Sl w B v (abs k)) (hB : B ≤ w.heap.size) (hk : (kind = 0 ∨ kind = 1) ∧ 0 ≤ c ∧ c < k.cores ∨ kind ≠ 0 ∧ kind ≠ 1 ∧ kind ≠ 3) (hl : ¬ (0 ≤ i ∧ i < k.n)) :
    Calls Try.prog 13 #[.agg #[.int .i64 k.cores, v], .agg #[.int .i64 kind, .int .i64 c, .int .i64 i]] w fun e w' => ∃ v', e = .returned (.tuple #[.agg #[.int .i64 k.cores, v'], .int .i64 0, .int .i64 2]) ∧ Sl w' B v' (abs k) ∧ Below w.heap.size w w' := by
  obtain ⟨A, cap, rfl, hcap, hC⟩ := hs.open_
  have HL := Lib.hid (abs_len k)
  have hi : i < 0 ∨ 0 ≤ i ∧ ((abs k).length : Int) ≤ i := by have := HL.out; have := f.ok.n0; omega
  clear hl
  rcases hk with ⟨rfl | rfl, hc0, hc1⟩ | ⟨h0, h1, h3⟩
  · rcases hi with hi | ⟨hi0, hi1⟩
    · have hi2 : decide (0 ≤ i) = false := by rw [decide_eq_false_iff_not]; omega
      clear hi
      go_enter Try.func13, Try.ntmps13
      go_wp2_with fail
      refine bodyPost_ret (results_ctt rfl _ _ (w.heap.size + 1 + 1) 38 #[.int .i64 k.cores, .slice A (abs k).length cap] (0, 0) _ rfl (third _ _ _ _) Try.underlying38 rfl (by kernel_rfl)) rfl ?_
      exact ⟨_, rfl, hs.below (three _ _ _ _), three _ _ _ _⟩
    · have hi2 : decide (i < ((abs k).length : Int)) = false := by rw [decide_eq_false_iff_not]; omega
      clear hi1
      go_enter Try.func13, Try.ntmps13
      go_wp2_with fail
      refine bodyPost_ret (results_ctt rfl _ _ (w.heap.size + 1 + 1) 38 #[.int .i64 k.cores, .slice A (abs k).length cap] (0, 0) _ rfl (third _ _ _ _) Try.underlying38 rfl (by kernel_rfl)) rfl ?_
      exact ⟨_, rfl, hs.below (three _ _ _ _), three _ _ _ _⟩
  · rcases hi with hi | ⟨hi0, hi1⟩
    · have hi2 : decide (0 ≤ i) = false := by rw [decide_eq_false_iff_not]; omega
      clear hi
      go_enter Try.func13, Try.ntmps13
      go_wp2_with fail
      refine bodyPost_ret (results_ctt rfl _ _ (w.heap.size + 1 + 1) 38 #[.int .i64 k.cores, .slice A (abs k).length cap] (0, 0) _ rfl (third _ _ _ _) Try.underlying38 rfl (by kernel_rfl)) rfl ?_
      exact ⟨_, rfl, hs.below (three _ _ _ _), three _ _ _ _⟩
    · have hi2 : decide (i < ((abs k).length : Int)) = false := by rw [decide_eq_false_iff_not]; omega
      clear hi1
      go_enter Try.func13, Try.ntmps13
      go_wp2_with fail
      refine bodyPost_ret (results_ctt rfl _ _ (w.heap.size + 1 + 1) 38 #[.int .i64 k.cores, .slice A (abs k).length cap] (0, 0) _ rfl (third _ _ _ _) Try.underlying38 rfl (by kernel_rfl)) rfl ?_
      exact ⟨_, rfl, hs.below (three _ _ _ _), three _ _ _ _⟩
  · have hb0 : (kind == 0) = false := by rw [beq_eq_false_iff_ne]; exact h0
    have hb1 : (kind == 1) = false := by rw [beq_eq_false_iff_ne]; exact h1
    have hb3 : (kind == 3) = false := by rw [beq_eq_false_iff_ne]; exact h3
    clear h0 h1 h3
    rcases hi with hi | ⟨hi0, hi1⟩
    · have hi2 : decide (0 ≤ i) = false := by rw [decide_eq_false_iff_not]; omega
      clear hi
      by_cases hc0 : c < 0
      all_goals
        go_enter Try.func13, Try.ntmps13
        go_wp2_with fail
        refine bodyPost_ret (results_ctt rfl _ _ (w.heap.size + 1 + 1) 38 #[.int .i64 k.cores, .slice A (abs k).length cap] (0, 0) _ rfl (third _ _ _ _) Try.underlying38 rfl (by kernel_rfl)) rfl ?_
        exact ⟨_, rfl, hs.below (three _ _ _ _), three _ _ _ _⟩
    · have hi2 : decide (i < ((abs k).length : Int)) = false := by rw [decide_eq_false_iff_not]; omega
      clear hi1
      by_cases hc0 : c < 0
      all_goals
        go_enter Try.func13, Try.ntmps13
        go_wp2_with fail
        refine bodyPost_ret (results_ctt rfl _ _ (w.heap.size + 1 + 1) 38 #[.int .i64 k.cores, .slice A (abs k).length cap] (0, 0) _ rfl (third _ _ _ _) Try.underlying38 rfl (by kernel_rfl)) rfl ?_
        exact ⟨_, rfl, hs.below (three _ _ _ _), three _ _ _ _⟩

end Go.Proofs.Ytloifnnofldgmaa.Locks
