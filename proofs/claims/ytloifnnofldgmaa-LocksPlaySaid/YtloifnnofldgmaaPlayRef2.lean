/- Locks: the contract of the reference's Do: the calls that reach a lock. -/
import Derived.Test.YtloifnnofldgmaaPlayRef
namespace Go.Proofs.Ytloifnnofldgmaa.Locks
set_option linter.unusedVariables false
set_option linter.unusedSimpArgs false
open Go.RowKit Go.Proofs.Ytloifnnofldgmaa.PLocksPlay Go.Proofs.YtloifnnofldgmaaW.PrintWords

theorem cell3 {w : World} {p : Addr} {v : Value} (h : w.cell? p = some v) (a b c : Obj) : (((w.alloc a).alloc b).alloc c).cell? p = some v :=
  ((three w a b c).cell (World.block_lt_of_cell? w _ h)).trans h

set_option maxHeartbeats 2000000 in
theorem ref_try (k : Bk) (f : k.Fit) (c i : Int) (v : Value) (B : Nat) (w : World) (hs : Sl w B v (abs k)) (hB : B ≤ w.heap.size) (hc0 : 0 ≤ c) (hc1 : c < k.cores) (hi0 : 0 ≤ i) (hi1 : i < k.n) (ho : k.own.getD i.toNat 0 ≠ 0) :
    Calls Try.prog 13 #[.agg #[.int .i64 k.cores, v], .agg #[.int .i64 0, .int .i64 c, .int .i64 i]] w fun e w' => ∃ v', e = .returned (.tuple #[.agg #[.int .i64 k.cores, v'], .int .i64 0, .int .i64 0]) ∧ Sl w' B v' (abs k) ∧ Below w.heap.size w w' := by
  obtain ⟨A, cap, rfl, hcap, hC⟩ := hs.open_
  have hi2 : i < ((abs k).length : Int) := by rw [abs_len]; omega
  obtain ⟨ad, rfl, hcell⟩ := hs.at_ i hi0 hi2
  rw [rd_abs k i hi0 hi1] at hcell
  have hge : 0 ≤ k.own.getD i.toNat 0 := (f.ok.get i.toNat (by have := f.ok.n1; omega)).1
  have hx : 0 ≤ k.own.getD i.toNat 0 - 1 := by omega
  generalize k.own.getD i.toNat 0 - 1 = x at *
  have hcell3 := cell3 hcell
  clear ho hge
  go_enter Try.func13, Try.ntmps13
  go_wp2_with fail
  refine bodyPost_ret (results_ctt rfl _ _ (w.heap.size + 1 + 1) 38 #[.int .i64 k.cores, .slice (some ad) (abs k).length cap] (0, 0) _ rfl (third _ _ _ _) Try.underlying38 rfl (by kernel_rfl)) rfl ?_
  exact ⟨_, rfl, hs.below (three _ _ _ _), three _ _ _ _⟩

end Go.Proofs.Ytloifnnofldgmaa.Locks
