/- Locks: the contract of the reference's Do: the calls that make another bank. -/
import Derived.Test.YtloifnnofldgmaaPlayRef2
import Derived.StillTailTactics
namespace Go.Proofs.Ytloifnnofldgmaa.Locks
set_option linter.unusedVariables false
set_option linter.unusedSimpArgs false
open Go.RowKit Go.Proofs.Ytloifnnofldgmaa.PLocksPlay Go.Proofs.YtloifnnofldgmaaW.PrintWords

theorem two_put {w : World} {g : Nat} {t : TypeId} {c0 c1 : Value} (v0 v1 : Value) (h : w.heap[g]? = some (.cells #[c0, c1] t (0, 0))) :
    ((w.setCell ⟨g, 0, none⟩ v0).setCell ⟨g, 1, none⟩ v1).heap[g]? = some (.cells #[v0, v1] t (0, 0)) :=
  blk_put (cs := #[v0, c1]) (blk_put (cs := #[c0, c1]) h 0 v0 rfl) 1 v1 rfl

set_option maxHeartbeats 2000000 in
theorem ref_got (k : Bk) (f : k.Fit) (c i : Int) (v : Value) (B : Nat) (w : World) (hs : Sl w B v (abs k)) (hB : B ≤ w.heap.size) (hc0 : 0 ≤ c) (hc1 : c < k.cores) (hi0 : 0 ≤ i) (hi1 : i < k.n) (ho : k.own.getD i.toNat 0 = 0) :
    Calls Try.prog 13 #[.agg #[.int .i64 k.cores, v], .agg #[.int .i64 0, .int .i64 c, .int .i64 i]] w fun e w' => ∃ v', e = .returned (.tuple #[.agg #[.int .i64 k.cores, v'], .int .i64 1, .int .i64 0]) ∧ Sl w' B v' (abs (k.put i.toNat (c + 1))) ∧ Below w.heap.size w w' := by
  have hp := abs_put f i.toNat (c + 1) (by omega)
  rw [show c + 1 - 1 = c by omega] at hp
  have hw := with_eq k f i c hi0 hi1
  rw [← hp] at hw
  generalize abs (k.put i.toNat (c + 1)) = y at *
  clear hp
  have HW := Lib.hid hw; clear hw
  obtain ⟨A, cap, rfl, hcap, hC⟩ := hs.open_
  have hi2 : i < ((abs k).length : Int) := by rw [abs_len]; omega
  obtain ⟨ad, rfl, hcell⟩ := hs.at_ i hi0 hi2
  rw [rd_abs k i hi0 hi1, ho] at hcell
  have hcell3 := cell3 hcell
  clear ho
  go_enter Try.func13, Try.ntmps13
  go_wp2_with fail
  refine (switchyardref10_with.calls k.cores (some ad) cap (abs k) i c _ _ _ (Kd.C_below hC (three _ _ _ _)) hcap HW.out).mono ?_
  rintro e w1 ⟨v1, rfl, hR, hB1⟩
  obtain ⟨A1, cap1, rfl, hcap1, hC1⟩ := Kd.R_reads hR
  have hz := (hB1.block (w.heap.size + 1 + 1) (by simp)).trans (third _ _ _ _)
  have z0 := (blk_cell hz 0).trans rfl
  have z1 := (blk_cell hz 1).trans rfl
  have f0 := blk_frozen hz 0
  have f1 := blk_frozen hz 1
  have hT := (three w _ _ _).trans (hB1.mono (by simp; omega))
  have HR := Lib.hid (Sl.new (B := B) hR (by simp; omega))
  clear hR hB1
  have HT := Lib.hid hT; clear hT
  have HZ := Lib.hid hz; clear hz
  go_wp2_with fail
  refine bodyPost_ret (results_ctt rfl _ _ (w.heap.size + 1 + 1) 38 _ (0, 0) _ rfl (two_put _ _ HZ.out) Try.underlying38 rfl (by kernel_rfl)) rfl ?_
  refine ⟨_, rfl, ?_, (HT.out.setCell (by show _ ≤ w.heap.size + 1 + 1; omega) _).setCell (by show _ ≤ w.heap.size + 1 + 1; omega) _⟩
  exact (HR.out.set ⟨w.heap.size + 1 + 1, 0, none⟩ _ ⟨_, _, HZ.out, by decide⟩).set ⟨w.heap.size + 1 + 1, 1, none⟩ _ ⟨_, _, blk_put HZ.out 0 _ rfl, by decide⟩

end Go.Proofs.Ytloifnnofldgmaa.Locks
