/- Locks: the contracts of New, Clone and Same. -/
import Derived.Test.YtloifnnofldgmaaRelease
import Derived.Deep.WholeRow
namespace Go.Proofs.Ytloifnnofldgmaa.Locks
set_option linter.unusedVariables false
set_option linter.unusedSimpArgs false
open Go.RowKit

/-- A new bank. -/
def newBk (c n : Int) : Bk := { cores := c, n := n, own := List.replicate 16 0 }
/-- May there be so many? -/
def isNew (c n : Int) : Prop := 1 ≤ c ∧ c ≤ 8 ∧ 1 ≤ n ∧ n ≤ 16
theorem newBk_ok {c n : Int} (h : isNew c n) : (newBk c n).Ok := ⟨h.1, h.2.1, h.2.2.1, h.2.2.2, by simp [newBk], fun x hx => by simp [newBk] at hx; omega⟩

set_option maxHeartbeats 400000 in
theorem new_no (c n : Int) (w : World) (h : ¬ isNew c n) :
    Calls Try.prog 6 #[.int .i64 c, .int .i64 n] w fun e w' => e = .returned (.pointer none) ∧ w = w' := by
  unfold isNew at h
  by_cases h1 : c < 1
  · go_enter Try.func6, Try.ntmps6
    go_wp2_with fail
    go_ret
    exact ⟨rfl, rfl⟩
  · by_cases h2 : 8 < c
    · go_enter Try.func6, Try.ntmps6
      go_wp2_with fail
      go_ret
      exact ⟨rfl, rfl⟩
    · by_cases h3 : n < 1
      · go_enter Try.func6, Try.ntmps6
        go_wp2_with fail
        go_ret
        exact ⟨rfl, rfl⟩
      · have h4 : 16 < n := by omega
        go_enter Try.func6, Try.ntmps6
        go_wp2_with fail
        go_ret
        exact ⟨rfl, rfl⟩

set_option maxHeartbeats 400000 in
theorem new_yes (c n : Int) (w : World) (h : isNew c n) :
    Calls Try.prog 6 #[.int .i64 c, .int .i64 n] w fun e w' => e = .returned (.pointer (some ⟨w.heap.size, 0, none⟩)) ∧ At w' w.heap.size (newBk c n) ∧ Below w.heap.size w w' ∧ w.heap.size < w'.heap.size := by
  obtain ⟨h1, h2, h3, h4⟩ := h
  go_enter Try.func6, Try.ntmps6
  go_wp2_with fail
  go_ret
  refine ⟨rfl, ?_, (Below.refl _ _).alloc (Nat.le_refl _) _, by simp⟩
  exact heap_alloc_new w _

theorem cells_len {k : Bk} (ok : k.Ok) : k.cells.length = 18 := by simp [Bk.cells, ok.len]

theorem info51 : (Try.prog.info? 51).map (·.size) = some 18 := by kernel_rfl

set_option maxHeartbeats 400000 in
theorem clone_any (b : Nat) (k : Bk) (w : World) (h : At w b k) (ok : k.Ok) :
    Calls Try.prog 15 #[.pointer (some ⟨b, 0, none⟩)] w fun e w' => e = .returned (.pointer (some ⟨w.heap.size, 0, none⟩)) ∧ At w' w.heap.size k ∧ Below w.heap.size w w' ∧ w.heap.size < w'.heap.size := by
  have hu51 := Try.underlying51
  have hlen := cells_len ok
  have hi51 : (Try.prog.info? 51).map (·.size) = some k.cells.toArray.size := by
    rw [List.size_toArray, hlen]; exact info51
  have hbk : w.heap[b]? = some (.cells k.cells.toArray 51 (0, 0)) := h
  have h1 : k.cells.toArray.all (·.oneCell') = true := all_oneCell_toArray fun v hv => by
    simp only [Bk.cells, List.mem_cons, List.mem_map] at hv
    rcases hv with rfl | rfl | ⟨x, -, rfl⟩ <;> rfl
  have hst : ∀ (w : World) (c : Array Value), c.size = 18 → (storeCells ⟨w.heap.size, 0, none⟩ k.cells).run Try.prog (w.alloc (.cells c 51)) = .ok () (w.alloc (.cells k.cells.toArray 51)) := fun w c hc => by
    have := run_storeCells_new (P := Try.prog) w 51 c k.cells.toArray hi51 (by rw [hc, List.size_toArray, hlen]) h1
    simpa using this
  have hfin : At (w.alloc (.cells k.cells.toArray 51)) w.heap.size k := heap_alloc_new w _
  have HF := Lib.hid hfin; clear hfin h1
  go_enter Try.func15, Try.ntmps15
  go_wp2_with (refine wpList_load_row rfl 51 _ rfl b rfl 51 _ _ _ hbk hu51 rfl hi51 ?_)
  go_ret
  exact ⟨rfl, HF.out, (Below.refl _ _).alloc (Nat.le_refl _) _, by simp⟩

end Go.Proofs.Ytloifnnofldgmaa.Locks
