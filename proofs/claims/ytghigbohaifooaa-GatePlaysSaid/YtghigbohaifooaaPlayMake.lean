/- Gate: the reference's first gate: a slice of cores that make lays. -/
import Derived.Test.YtghigbohaifooaaPlayRef2
import Derived.Laws.MakeOwn
namespace Go.Proofs.Ytghigbohaifooaa.Gates
set_option linter.unusedVariables false
set_option linter.unusedSimpArgs false
open Go.RowKit Go.Proofs.Ytghigbohaifooaa.PGatePlays Go.Proofs.YtghigbohaifooaaW.PrintWords

theorem make_run (c : Int) (h : isNew c) (W : World) :
    (Instr.makeSlice 38 (.int .i64 c) (.int .i64 c)).run Try.prog W = .ok (.slice (some ⟨W.heap.size, 0, none⟩) c.toNat c.toNat) (W.alloc (.cells (madeCells #[.int .i64 0, .bool false] (c.toNat * 2)) 48)) := by
  obtain ⟨h1, h2⟩ := h
  obtain ⟨i, hi, hz⟩ := Option.map_eq_some_iff.1 PGatePlays.info48
  simp only [Prod.mk.injEq] at hz
  obtain ⟨hz0, hz1, hz2⟩ := hz
  have := run_make (P := Try.prog) W 38 48 i (.agg #[.int .i64 0, .bool false]) Try.underlying38 hi hz0 .i64 .i64 c c (by omega) (by omega) (by rw [hz2]; omega) (by omega)
  rw [hz1] at this
  exact this

theorem make_row (c : Int) (h : isNew c) (W : World) :
    Sg (W.alloc (.cells (madeCells #[.int .i64 0, .bool false] (c.toNat * 2)) 48)) W.heap.size (.slice (some ⟨W.heap.size, 0, none⟩) (absG (newGt c)).length c.toNat) (absG (newGt c)) := by
  obtain ⟨h1, h2⟩ := h
  rw [new_abs c ⟨h1, h2⟩, List.length_replicate]
  refine ⟨fun _ _ => trivial, (madeCells #[.int .i64 0, .bool false] (c.toNat * 2)).toList, ?_, ?_⟩
  · rw [List.length_replicate]
    exact World.ownsRow_lit (base := W.heap.size) (e := 48) (size := 2) W _ c.toNat (Nat.le_refl _) (by show c.toNat ≤ 9223372036854775807; omega) (by simp [size_madeCells])
  · exact Kd.reps_made (z := .agg #[.int .i64 0, .bool false]) (size := 2) (z0 := z48) rfl (by decide) (k48_mkM _ _ _ z48) c.toNat

end Go.Proofs.Ytghigbohaifooaa.Gates
