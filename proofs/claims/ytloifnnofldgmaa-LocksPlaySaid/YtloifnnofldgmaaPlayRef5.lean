/- Locks: the contract of the reference's Do: the call that asks for an owner. -/
import Derived.Test.YtloifnnofldgmaaPlayRef4
import Derived.Deep.RegionHeld3
namespace Go.Proofs.Ytloifnnofldgmaa.Locks
set_option linter.unusedVariables false
set_option linter.unusedSimpArgs false
open Go.RowKit Go.Proofs.Ytloifnnofldgmaa.PLocksPlay Go.Proofs.YtloifnnofldgmaaW.PrintWords

theorem first_ (w : World) (a b c : Obj) : (((w.alloc a).alloc b).alloc c).heap[w.heap.size]? = some a := by
  rw [heap_alloc_old _ _ (by simp; omega), heap_alloc_old _ _ (by simp)]
  exact heap_alloc_new _ _
theorem second (w : World) (a b c : Obj) : (((w.alloc a).alloc b).alloc c).heap[w.heap.size + 1]? = some b := by
  rw [heap_alloc_old _ _ (by simp), show w.heap.size + 1 = (w.alloc a).heap.size by simp]
  exact heap_alloc_new _ _

theorem keep_put {u : World} {p : Addr} {a : Value} {g : Nat} (n : p.block ≠ g) (v0 v1 : Value) (h : u.cell? p = some a) : ((u.setCell ⟨g, 0, none⟩ v0).setCell ⟨g, 1, none⟩ v1).cell? p = some a := by
  rw [cell_far n, cell_far n]; exact h
theorem keep4 {u : World} {p q r t : Addr} {a b c d : Value} {g : Nat} (n0 : p.block ≠ g) (n1 : q.block ≠ g) (n2 : r.block ≠ g) (n3 : t.block ≠ g) (v0 v1 : Value) (h : u.cell? p = some a ∧ u.cell? q = some b ∧ u.cell? r = some c ∧ u.cell? t = some d) :
    ((u.setCell ⟨g, 0, none⟩ v0).setCell ⟨g, 1, none⟩ v1).cell? p = some a ∧ ((u.setCell ⟨g, 0, none⟩ v0).setCell ⟨g, 1, none⟩ v1).cell? q = some b ∧ ((u.setCell ⟨g, 0, none⟩ v0).setCell ⟨g, 1, none⟩ v1).cell? r = some c ∧ ((u.setCell ⟨g, 0, none⟩ v0).setCell ⟨g, 1, none⟩ v1).cell? t = some d :=
  ⟨keep_put n0 _ _ h.1, keep_put n1 _ _ h.2.1, keep_put n2 _ _ h.2.2.1, keep_put n3 _ _ h.2.2.2⟩

set_option maxHeartbeats 2000000 in
theorem ref_owner (k : Bk) (f : k.Fit) (kind c i : Int) (v : Value) (B : Nat) (w : World) (hs : Sl w B v (abs k)) (hB : B ≤ w.heap.size) (hi0 : 0 ≤ i) (hi1 : i < k.n) (h0 : kind ≠ 0) (h1 : kind ≠ 1) (h3 : kind ≠ 3) :
    Calls Try.prog 13 #[.agg #[.int .i64 k.cores, v], .agg #[.int .i64 kind, .int .i64 c, .int .i64 i]] w fun e w' => ∃ v', e = .returned (.tuple #[.agg #[.int .i64 k.cores, v'], .int .i64 (k.own.getD i.toNat 0 - 1), .int .i64 0]) ∧ Sl w' B v' (abs k) ∧ Below w.heap.size w w' := by
  obtain ⟨A, cap, rfl, hcap, hC⟩ := hs.open_
  have hi2 : i < ((abs k).length : Int) := by rw [abs_len]; omega
  obtain ⟨ad, rfl, hcell⟩ := hs.at_ i hi0 hi2
  rw [rd_abs k i hi0 hi1] at hcell
  generalize k.own.getD i.toNat 0 - 1 = x at *
  have hcell3 := cell3 hcell
  have hb0 : (kind == 0) = false := by rw [beq_eq_false_iff_ne]; exact h0
  have hb1 : (kind == 1) = false := by rw [beq_eq_false_iff_ne]; exact h1
  have hb3 : (kind == 3) = false := by rw [beq_eq_false_iff_ne]; exact h3
  clear h0 h1 h3
  obtain ⟨w1, hw1⟩ : ∃ w1, w1 = (((w.alloc (.cells #[.int .i64 k.cores, .slice (some ad) (abs k).length cap] 38)).alloc (.cells #[.int .i64 kind, .int .i64 c, .int .i64 i] 28)).alloc (.cells #[.int .i64 0, .slice none 0 0] 38)) := ⟨_, rfl⟩
  have hT : Below w.heap.size w w1 := by rw [hw1]; exact three _ _ _ _
  have b0 : w1.heap[w.heap.size]? = some (.cells #[.int .i64 k.cores, .slice (some ad) (abs k).length cap] 38 (0, 0)) := by rw [hw1]; exact first_ w _ _ _
  have b1 : w1.heap[w.heap.size + 1]? = some (.cells #[.int .i64 kind, .int .i64 c, .int .i64 i] 28 (0, 0)) := by rw [hw1]; exact second w _ _ _
  have b2 : w1.heap[w.heap.size + 1 + 1]? = some (.cells #[.int .i64 0, .slice none 0 0] 38 (0, 0)) := by rw [hw1]; exact third w _ _ _
  have a0 : w1.cell? ⟨w.heap.size, 0, none⟩ = some (.int .i64 k.cores) := (blk_cell b0 0).trans rfl
  have a1 : w1.cell? ⟨w.heap.size, 1, none⟩ = some (.slice (some ad) (abs k).length cap) := (blk_cell b0 1).trans rfl
  have a2 : w1.cell? ⟨w.heap.size + 1, 2, none⟩ = some (.int .i64 i) := (blk_cell b1 2).trans rfl
  have a3 : w1.cell? (ad.add i.toNat) = some (.int .i64 x) := by rw [hw1]; exact hcell3 _ _ _
  have a4 : w1.cell? ⟨w.heap.size + 1 + 1, 0, none⟩ = some (.int .i64 0) := (blk_cell b2 0).trans rfl
  have a5 : w1.cell? ⟨w.heap.size + 1 + 1, 1, none⟩ = some (.slice none 0 0) := (blk_cell b2 1).trans rfl
  have f0 : w1.frozen? ⟨w.heap.size + 1 + 1, 0, none⟩ = false := blk_frozen b2 0
  have f1 : w1.frozen? ⟨w.heap.size + 1 + 1, 1, none⟩ = false := blk_frozen b2 1
  have HT := Lib.hid hT.drew
  have hb2 : w1.drew.heap[w.heap.size + 1 + 1]? = _ := b2
  have Hb2 := Lib.hid hb2; clear hb2
  have HS := Lib.hid (hs.below hT.drew)
  clear hT b0 b1 b2 hs
  have HW := Lib.hid hw1; clear hw1
  have m0 : (⟨w.heap.size, 0, none⟩ : Addr).block ≠ w.heap.size + 1 + 1 := by show w.heap.size ≠ _; omega
  have m1 : (⟨w.heap.size, 1, none⟩ : Addr).block ≠ w.heap.size + 1 + 1 := by show w.heap.size ≠ _; omega
  have m2 : (⟨w.heap.size + 1, 2, none⟩ : Addr).block ≠ w.heap.size + 1 + 1 := by show w.heap.size + 1 ≠ _; omega
  have m3 : (ad.add i.toNat).block ≠ w.heap.size + 1 + 1 := by have := World.block_lt_of_cell? w _ hcell; omega
  by_cases hc0 : c < 0
  all_goals
    go_enter Try.func13, Try.ntmps13
    go_wp2_with fail
    rw [← HW.out]
    go_region_held3 (fun u => u.cell? ⟨w.heap.size, 0, none⟩ = some (.int .i64 k.cores) ∧ u.cell? ⟨w.heap.size, 1, none⟩ = some (.slice (some ad) (abs k).length cap) ∧ u.cell? ⟨w.heap.size + 1, 2, none⟩ = some (.int .i64 i) ∧ u.cell? (ad.add i.toNat) = some (.int .i64 x))
      (first | exact ⟨a0, a1, a2, a3⟩ | exact keep4 m0 m1 m2 m3 _ _ (by assumption) | exact keep4 m0 m1 m2 m3 _ _ ⟨a0, a1, a2, a3⟩)
      (fail)
    go_wp2_with fail
    refine bodyPost_ret (results_ctt rfl _ _ (w.heap.size + 1 + 1) 38 _ (0, 0) _ rfl (two_put _ _ Hb2.out) Try.underlying38 rfl (by kernel_rfl)) rfl ?_
    refine ⟨_, rfl, ?_, (HT.out.setCell (by show _ ≤ w.heap.size + 1 + 1; omega) _).setCell (by show _ ≤ w.heap.size + 1 + 1; omega) _⟩
    exact (HS.out.set ⟨w.heap.size + 1 + 1, 0, none⟩ _ ⟨_, _, Hb2.out, by decide⟩).set ⟨w.heap.size + 1 + 1, 1, none⟩ _ ⟨_, _, blk_put Hb2.out 0 _ rfl, by decide⟩

end Go.Proofs.Ytloifnnofldgmaa.Locks
