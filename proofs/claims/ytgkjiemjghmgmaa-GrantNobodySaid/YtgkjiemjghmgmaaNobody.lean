/- GrantNobody: the walk of the law: whatever the call, it comes to true, and what was there in memory is as it was. -/
import Derived.Test.YtgkjiemjghmgmaaDo
namespace Go.Proofs.Ytgkjiemjghmgmaa.Grants
set_option linter.unusedVariables false
set_option linter.unusedSimpArgs false
open Go.RowKit

set_option maxHeartbeats 2000000 in
theorem nobody_walk (kind x : Int) (w : World) :
    Calls Try.prog 5 #[.agg #[.int .i64 kind, .int .i64 x]] w fun e w' => e = .returned (.bool true) ∧ Below w.heap.size w w' := by
  have hB0 : Below w.heap.size w (w.alloc (.cells #[.int .i64 kind, .int .i64 x] 28)) := (Below.refl _ _).alloc (Nat.le_refl _) _
  have HB0 := Lib.hid hB0; clear hB0
  have key : ∀ (E : Int), (if kind = 1 ∨ kind = 3 then (1 : Int) else 0) = E → True := fun _ _ => trivial
  by_cases h13 : kind = 1 ∨ kind = 3
  · have hE := Lib.hid (if_pos h13 : (if kind = 1 ∨ kind = 3 then (1 : Int) else 0) = 1)
    clear hE
    rcases h13 with rfl | rfl
    · go_enter Try.func5, Try.ntmps5
      go_wp2_with fail
      refine (do_nil _ x _).mono ?_
      rintro e w1 ⟨rfl, hB1⟩
      rw [if_pos (by decide)]
      have c0 : w1.cell? ⟨w.heap.size, 0, none⟩ = some (.int .i64 1) := by rw [hB1.cell (p := ⟨w.heap.size, 0, none⟩) (by simp)]; go_simp
      have c1 : w1.cell? ⟨w.heap.size, 1, none⟩ = some (.int .i64 x) := by rw [hB1.cell (p := ⟨w.heap.size, 1, none⟩) (by simp)]; go_simp
      have HB1 := Lib.hid (HB0.out.trans (hB1.mono (by simp)))
      clear hB1
      go_wp2_with fail
      refine (len_nil _).mono ?_
      rintro e w' ⟨rfl, rfl⟩
      go_wp2_with fail
      refine (held_nil _).mono ?_
      rintro e w' ⟨rfl, rfl⟩
      go_wp2_with fail
      refine (clone_nil _).mono ?_
      rintro e w' ⟨rfl, rfl⟩
      go_wp2_with fail
      refine (alive_any _).mono ?_
      rintro e w3 ⟨rfl, hB3⟩
      have hB3' : Below w.heap.size w w3 := HB1.out.trans (hB3.mono (by have := HB1.out.size; omega))
      clear hB3
      go_wp2_with fail
      go_ret
      exact ⟨rfl, hB3'⟩
    · go_enter Try.func5, Try.ntmps5
      go_wp2_with fail
      refine (do_nil _ x _).mono ?_
      rintro e w1 ⟨rfl, hB1⟩
      rw [if_pos (by decide)]
      have c0 : w1.cell? ⟨w.heap.size, 0, none⟩ = some (.int .i64 3) := by rw [hB1.cell (p := ⟨w.heap.size, 0, none⟩) (by simp)]; go_simp
      have c1 : w1.cell? ⟨w.heap.size, 1, none⟩ = some (.int .i64 x) := by rw [hB1.cell (p := ⟨w.heap.size, 1, none⟩) (by simp)]; go_simp
      have HB1 := Lib.hid (HB0.out.trans (hB1.mono (by simp)))
      clear hB1
      go_wp2_with fail
      refine (len_nil _).mono ?_
      rintro e w' ⟨rfl, rfl⟩
      go_wp2_with fail
      refine (held_nil _).mono ?_
      rintro e w' ⟨rfl, rfl⟩
      go_wp2_with fail
      refine (clone_nil _).mono ?_
      rintro e w' ⟨rfl, rfl⟩
      go_wp2_with fail
      refine (alive_any _).mono ?_
      rintro e w3 ⟨rfl, hB3⟩
      have hB3' : Below w.heap.size w w3 := HB1.out.trans (hB3.mono (by have := HB1.out.size; omega))
      clear hB3
      go_wp2_with fail
      go_ret
      exact ⟨rfl, hB3'⟩
  · have hE := Lib.hid (if_neg h13 : (if kind = 1 ∨ kind = 3 then (1 : Int) else 0) = 0)
    have hb1 : (kind == 1) = false := by rw [beq_eq_false_iff_ne]; omega
    have hb3 : (kind == 3) = false := by rw [beq_eq_false_iff_ne]; omega
    clear h13
    go_enter Try.func5, Try.ntmps5
    go_wp2_with fail
    refine (do_nil _ x _).mono ?_
    rintro e w1 ⟨rfl, hB1⟩
    rw [hE.out]
    have c0 : w1.cell? ⟨w.heap.size, 0, none⟩ = some (.int .i64 kind) := by rw [hB1.cell (p := ⟨w.heap.size, 0, none⟩) (by simp)]; go_simp
    have c1 : w1.cell? ⟨w.heap.size, 1, none⟩ = some (.int .i64 x) := by rw [hB1.cell (p := ⟨w.heap.size, 1, none⟩) (by simp)]; go_simp
    have HB1 := Lib.hid (HB0.out.trans (hB1.mono (by simp)))
    clear hB1
    go_wp2_with fail
    refine (len_nil _).mono ?_
    rintro e w' ⟨rfl, rfl⟩
    go_wp2_with fail
    refine (held_nil _).mono ?_
    rintro e w' ⟨rfl, rfl⟩
    go_wp2_with fail
    refine (clone_nil _).mono ?_
    rintro e w' ⟨rfl, rfl⟩
    go_wp2_with fail
    refine (alive_any _).mono ?_
    rintro e w3 ⟨rfl, hB3⟩
    have hB3' : Below w.heap.size w w3 := HB1.out.trans (hB3.mono (by have := HB1.out.size; omega))
    clear hB3
    go_wp2_with fail
    go_ret
    exact ⟨rfl, hB3'⟩

end Go.Proofs.Ytgkjiemjghmgmaa.Grants
