/- Locks: the contract of the reference's Do: the calls that free a lock, and that ask for its owner. -/
import Derived.Test.YtloifnnofldgmaaPlayRef3
namespace Go.Proofs.Ytloifnnofldgmaa.Locks
set_option linter.unusedVariables false
set_option linter.unusedSimpArgs false
open Go.RowKit Go.Proofs.Ytloifnnofldgmaa.PLocksPlay Go.Proofs.YtloifnnofldgmaaW.PrintWords

theorem three_put (w : World) (a b : Obj) (c0 c1 v0 v1 : Value) (n m : Nat) :
    Below w.heap.size w (((((((w.alloc a).alloc b).alloc (.cells #[c0, c1] 38)).drewN n).setCell ⟨w.heap.size + 1 + 1, 0, none⟩ v0).setCell ⟨w.heap.size + 1 + 1, 1, none⟩ v1).drewN m) :=
  below_drewN (((below_drewN (three w a b _) n).setCell (by show _ ≤ w.heap.size + 1 + 1; omega) _).setCell (by show _ ≤ w.heap.size + 1 + 1; omega) _) m

set_option maxHeartbeats 2000000 in
theorem ref_keep (k : Bk) (f : k.Fit) (kind c i : Int) (v : Value) (B : Nat) (w : World) (hs : Sl w B v (abs k)) (hB : B ≤ w.heap.size) (hi0 : 0 ≤ i) (hi1 : i < k.n) (hc0 : 0 ≤ c) (hc1 : c < k.cores) (ho : k.own.getD i.toNat 0 ≠ c + 1) :
    Calls Try.prog 13 #[.agg #[.int .i64 k.cores, v], .agg #[.int .i64 1, .int .i64 c, .int .i64 i]] w fun e w' => ∃ v', e = .returned (.tuple #[.agg #[.int .i64 k.cores, v'], .int .i64 0, .int .i64 12]) ∧ Sl w' B v' (abs k) ∧ Below w.heap.size w w' := by
  obtain ⟨A, cap, rfl, hcap, hC⟩ := hs.open_
  have hi2 : i < ((abs k).length : Int) := by rw [abs_len]; omega
  obtain ⟨ad, rfl, hcell⟩ := hs.at_ i hi0 hi2
  rw [rd_abs k i hi0 hi1] at hcell
  have hx : (k.own.getD i.toNat 0 - 1 == c) = false := by rw [beq_eq_false_iff_ne]; omega
  have hx2 : (k.own.getD i.toNat 0 - 1 != c) = true := by rw [bne_iff_ne]; omega
  generalize k.own.getD i.toNat 0 - 1 = x at *
  have hcell3 := cell3 hcell
  clear ho
  go_enter Try.func13, Try.ntmps13
  go_wp2_with fail
  go_quiet (fail)
  go_wp2_with fail
  refine bodyPost_ret (results_ctt rfl _ _ (w.heap.size + 1 + 1) 38 _ (0, 0) _ rfl (two_put _ _ (third w _ _ _)) Try.underlying38 rfl (by kernel_rfl)) rfl ?_
  exact ⟨_, rfl, hs.below (three_put _ _ _ _ _ _ _ _ 0), three_put _ _ _ _ _ _ _ _ 0⟩

set_option maxHeartbeats 2000000 in
theorem ref_free (k : Bk) (f : k.Fit) (kind c i : Int) (v : Value) (B : Nat) (w : World) (hs : Sl w B v (abs k)) (hB : B ≤ w.heap.size) (hi0 : 0 ≤ i) (hi1 : i < k.n) (hc0 : 0 ≤ c) (hc1 : c < k.cores) (ho : k.own.getD i.toNat 0 = c + 1) :
    Calls Try.prog 13 #[.agg #[.int .i64 k.cores, v], .agg #[.int .i64 1, .int .i64 c, .int .i64 i]] w fun e w' => ∃ v', e = .returned (.tuple #[.agg #[.int .i64 k.cores, v'], .int .i64 0, .int .i64 0]) ∧ Sl w' B v' (abs (k.put i.toNat 0)) ∧ Below w.heap.size w w' := by
  obtain ⟨A, cap, rfl, hcap, hC⟩ := hs.open_
  have hi2 : i < ((abs k).length : Int) := by rw [abs_len]; omega
  obtain ⟨ad, rfl, hcell⟩ := hs.at_ i hi0 hi2
  rw [rd_abs k i hi0 hi1] at hcell
  have hp := abs_put f i.toNat 0 (by omega)
  rw [show (0 : Int) - 1 = -1 by omega] at hp
  have hw := with_eq k f i (-1) hi0 hi1
  rw [← hp] at hw
  generalize abs (k.put i.toNat 0) = y at *
  clear hp
  have HW := Lib.hid hw; clear hw
  rw [show k.own.getD i.toNat 0 - 1 = c by omega] at hcell
  have hcell3 := cell3 hcell
  clear ho
  go_enter Try.func13, Try.ntmps13
  go_wp2_with fail
  go_quiet (fail)
  go_wp2_with fail
  refine (switchyardref10_with.calls k.cores (some ad) cap (abs k) i (-1) _ _ _ (Kd.C_below hC (below_drewN (three w _ _ _) _)) hcap HW.out).mono ?_
  rintro e w1 ⟨v1, rfl, hR, hB1⟩
  obtain ⟨A1, cap1, rfl, hcap1, hC1⟩ := Kd.R_reads hR
  have hz := (hB1.block (w.heap.size + 1 + 1) (by simp)).trans (third w _ _ _)
  have z0 := (blk_cell hz 0).trans rfl
  have z1 := (blk_cell hz 1).trans rfl
  have f0 := blk_frozen hz 0
  have f1 := blk_frozen hz 1
  have hT := (below_drewN (three w _ _ _) _).trans (hB1.mono (by simp; omega))
  have HR := Lib.hid (Sl.new (B := B) hR (by simp; omega))
  clear hR hB1
  have HT := Lib.hid hT; clear hT
  have HZ := Lib.hid hz; clear hz
  go_wp2_with fail
  refine bodyPost_ret (results_ctt rfl _ _ (w.heap.size + 1 + 1) 38 _ (0, 0) _ rfl (two_put _ _ HZ.out) Try.underlying38 rfl (by kernel_rfl)) rfl ?_
  refine ⟨_, rfl, ?_, (HT.out.setCell (by show _ ≤ w.heap.size + 1 + 1; omega) _).setCell (by show _ ≤ w.heap.size + 1 + 1; omega) _⟩
  exact (HR.out.set ⟨w.heap.size + 1 + 1, 0, none⟩ _ ⟨_, _, HZ.out, by decide⟩).set ⟨w.heap.size + 1 + 1, 1, none⟩ _ ⟨_, _, blk_put HZ.out 0 _ rfl, by decide⟩

end Go.Proofs.Ytloifnnofldgmaa.Locks
