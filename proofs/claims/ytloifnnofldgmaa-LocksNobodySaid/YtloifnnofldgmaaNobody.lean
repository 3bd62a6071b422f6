/- LocksNobody: the walk of the law: whatever the call, it comes to true, and what was there in memory is as it was. -/
import Derived.Test.YtloifnnofldgmaaAlive
namespace Go.Proofs.Ytloifnnofldgmaa.Locks
set_option linter.unusedVariables false
set_option linter.unusedSimpArgs false
open Go.RowKit

set_option maxHeartbeats 1000000 in
theorem nobody_walk (kind c i : Int) (w : World) :
    Calls Try.prog 5 #[.agg #[.int .i64 kind, .int .i64 c, .int .i64 i]] w fun e w' => e = .returned (.bool true) ∧ Below w.heap.size w w' := by
  have hn : isNew 1 1 := by unfold isNew; omega
  have hp : ∀ (b : Nat) (w : World), (binOp .neq 23 (.pointer (some ⟨b, 0, none⟩)) (.pointer none)).run Try.prog w = .ok (.bool true) w := fun _ _ => by kernel_rfl
  have hB0 : Below w.heap.size w (w.alloc (.cells #[.int .i64 kind, .int .i64 c, .int .i64 i] 28)) := (Below.refl _ _).alloc (Nat.le_refl _) _
  have hz0 : (w.alloc (.cells #[.int .i64 kind, .int .i64 c, .int .i64 i] 28)).heap.size = w.heap.size + 1 := by simp
  have HB0 := Lib.hid hB0; clear hB0
  have HZ0 := Lib.hid hz0; clear hz0
  go_enter Try.func5, Try.ntmps5
  go_wp2_with fail
  refine (new_yes 1 1 _ hn).mono ?_
  rintro e w1 ⟨rfl, hA1, hB1, hs1⟩
  rw [HZ0.out] at hB1 hs1
  have c0 : w1.cell? ⟨w.heap.size, 0, none⟩ = some (.int .i64 kind) := by rw [hB1.cell (p := ⟨w.heap.size, 0, none⟩) (by simp)]; go_simp
  have c1 : w1.cell? ⟨w.heap.size, 1, none⟩ = some (.int .i64 c) := by rw [hB1.cell (p := ⟨w.heap.size, 1, none⟩) (by simp)]; go_simp
  have c2 : w1.cell? ⟨w.heap.size, 2, none⟩ = some (.int .i64 i) := by rw [hB1.cell (p := ⟨w.heap.size, 2, none⟩) (by simp)]; go_simp
  have hB1' : Below w.heap.size w w1 := HB0.out.trans (hB1.mono (by omega))
  have HB1 := Lib.hid hB1'; clear hB1 hB1'
  go_wp2_with fail
  refine (do_nil kind c i _).mono ?_
  rintro e w2 ⟨rfl, hB2⟩
  have c1' : w2.cell? ⟨w.heap.size, 1, none⟩ = some (.int .i64 c) := by rw [hB2.cell (p := ⟨w.heap.size, 1, none⟩) (by show w.heap.size < w1.heap.size; omega)]; exact c1
  have hB2' : Below w.heap.size w w2 := HB1.out.trans (hB2.mono (by omega))
  have HB2 := Lib.hid hB2'; clear hB2 hB2'
  go_wp2_with fail
  refine (len_nil _).mono ?_
  rintro e w' ⟨rfl, rfl⟩
  go_wp2_with fail
  refine (held_nil c _).mono ?_
  rintro e w' ⟨rfl, rfl⟩
  go_wp2_with fail
  refine (clone_nil _).mono ?_
  rintro e w' ⟨rfl, rfl⟩
  go_wp2_with fail
  refine (same_nil _).mono ?_
  rintro e w' ⟨rfl, rfl⟩
  go_wp2_with fail
  refine (same_nil_l _ _).mono ?_
  rintro e w' ⟨rfl, rfl⟩
  go_wp2_with fail
  refine (same_nil_r _ _).mono ?_
  rintro e w' ⟨rfl, rfl⟩
  go_wp2_with fail
  refine (alive_any _).mono ?_
  rintro e w3 ⟨rfl, hB3⟩
  have hB3' : Below w.heap.size w w3 := HB2.out.trans (hB3.mono (by have := HB2.out.size; omega))
  clear hB3
  go_wp2_with fail
  go_ret
  exact ⟨rfl, hB3'⟩

end Go.Proofs.Ytloifnnofldgmaa.Locks
