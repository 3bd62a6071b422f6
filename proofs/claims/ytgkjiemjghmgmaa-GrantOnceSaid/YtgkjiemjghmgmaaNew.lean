/- Grant: the contracts of New, Clone and Clear. -/
import Derived.Test.YtgkjiemjghmgmaaSlot
import Derived.Deep.MidRow
import Derived.Deep.WholeRow
import Derived.Laws.Rows
namespace Go.Proofs.Ytgkjiemjghmgmaa.Grants
set_option linter.unusedVariables false
set_option linter.unusedSimpArgs false
open Go.RowKit

/-- A new table. -/
def newTb (n : Int) : Tb := { n := n, gens := List.replicate 64 0, held := List.replicate 64 false }
def isNew (n : Int) : Prop := 1 ≤ n ∧ n ≤ 64
theorem newTb_ok {n : Int} (h : isNew n) : (newTb n).Ok := ⟨h.1, h.2, by simp [newTb], by simp [newTb], fun x hx => by simp [newTb] at hx; omega⟩

theorem new_no (n : Int) (w : World) (h : ¬ isNew n) :
    Calls Try.prog 6 #[.int .i64 n] w fun e w' => e = .returned (.pointer none) ∧ w = w' := by
  unfold isNew at h
  by_cases h1 : n < 1
  · go_enter Try.func6, Try.ntmps6
    go_wp2_with fail
    go_ret
    exact ⟨rfl, rfl⟩
  · have h2 : 64 < n := by omega
    go_enter Try.func6, Try.ntmps6
    go_wp2_with fail
    go_ret
    exact ⟨rfl, rfl⟩

theorem cells_len {k : Tb} (ok : k.Ok) : k.cells.length = 129 := by simp [Tb.cells, ok.lg, ok.lh]
theorem zero53 (w : World) : (zeroValue 53).run Try.prog w = .ok (.agg (newTb 0).cells.toArray) w := by kernel_rfl
/-- The zero value, as an array of which the walk knows no more than it needs. -/
theorem zeros : ∃ zs : Array Value, (∀ w, (zeroValue 53).run Try.prog w = .ok (.agg zs) w) ∧ zs.size = 129 ∧ zs ≠ #[] ∧ ∀ n : Int, zs.setIfInBounds 0 (.int .i64 n) = (newTb n).cells.toArray := by
  have h1 : (newTb 0).cells.length = 129 := by simp [newTb, Tb.cells]
  refine ⟨(newTb 0).cells.toArray, zero53, by rw [List.size_toArray]; exact h1, fun h => ?_, fun n => ?_⟩
  · have := congrArg Array.size h
    rw [List.size_toArray, h1] at this
    simp at this
  · simp [newTb, Tb.cells]

set_option maxHeartbeats 1000000 in
set_option maxRecDepth 100000 in
theorem new_yes (n : Int) (w : World) (h : isNew n) :
    Calls Try.prog 6 #[.int .i64 n] w fun e w' => e = .returned (.pointer (some ⟨w.heap.size, 0, none⟩)) ∧ At w' w.heap.size (newTb n) ∧ Below w.heap.size w w' ∧ w.heap.size < w'.heap.size := by
  obtain ⟨h1, h2⟩ := h
  obtain ⟨zs, hzv, hzs, hzn, hset⟩ := zeros
  have hset := hset n
  go_enter Try.func6, Try.ntmps6
  go_wp2_with fail
  go_ret
  refine ⟨rfl, ?_, (Below.refl _ _).alloc (Nat.le_refl _) _, by simp⟩
  exact heap_alloc_new w _

theorem info53 : (Try.prog.info? 53).map (·.size) = some 129 := by kernel_rfl
theorem cells_one (k : Tb) : k.cells.toArray.all (·.oneCell') = true := all_oneCell_toArray fun v hv => by
  simp only [Tb.cells, List.mem_cons, List.mem_append, List.mem_map] at hv
  rcases hv with rfl | ⟨x, -, rfl⟩ | ⟨x, -, rfl⟩ <;> rfl

set_option maxHeartbeats 1000000 in
set_option maxRecDepth 100000 in
theorem clone_any (b : Nat) (k : Tb) (w : World) (h : At w b k) (ok : k.Ok) :
    Calls Try.prog 20 #[.pointer (some ⟨b, 0, none⟩)] w fun e w' => e = .returned (.pointer (some ⟨w.heap.size, 0, none⟩)) ∧ At w' w.heap.size k ∧ Below w.heap.size w w' ∧ w.heap.size < w'.heap.size := by
  have hu53 := Try.underlying53
  have hlen := cells_len ok
  have hi53 : (Try.prog.info? 53).map (·.size) = some k.cells.toArray.size := by
    rw [List.size_toArray, hlen]; exact info53
  have hbk : w.heap[b]? = some (.cells k.cells.toArray 53 (0, 0)) := h
  have h1 := cells_one k
  have hst : ∀ (w : World) (c : Array Value), c.size = 129 → (storeCells ⟨w.heap.size, 0, none⟩ k.cells).run Try.prog (w.alloc (.cells c 53)) = .ok () (w.alloc (.cells k.cells.toArray 53)) := fun w c hc => by
    have := run_storeCells_new (P := Try.prog) w 53 c k.cells.toArray hi53 (by rw [hc, List.size_toArray, hlen]) h1
    simpa using this
  have hfin : At (w.alloc (.cells k.cells.toArray 53)) w.heap.size k := heap_alloc_new w _
  have HF := Lib.hid hfin; clear hfin h1
  obtain ⟨zs, hzv, hzs, hzn, -⟩ := zeros
  go_enter Try.func20, Try.ntmps20
  go_wp2_with (refine wpList_load_row rfl 53 _ rfl b rfl 53 _ _ _ hbk hu53 rfl hi53 ?_)
  go_ret
  exact ⟨rfl, HF.out, (Below.refl _ _).alloc (Nat.le_refl _) _, by simp⟩

theorem clone_nil (w : World) :
    Calls Try.prog 20 #[.pointer none] w fun e w' => e = .returned (.pointer none) ∧ w = w' := by
  go_enter Try.func20, Try.ntmps20
  go_wp2_with fail
  go_ret
  exact ⟨rfl, rfl⟩

/-- What is stored in the middle of a block. -/
theorem setCells_mid (b : Nat) (t : TypeId) : ∀ (vs pre mid post : List Value) (w : World), w.heap[b]? = some (.cells (pre ++ (mid ++ post)).toArray t (0, 0)) → mid.length = vs.length →
    (w.setCells b pre.length vs).heap[b]? = some (.cells (pre ++ (vs ++ post)).toArray t (0, 0)) ∧ (w.grownBy (w.setCells b pre.length vs) (some b)) := by
  intro vs
  induction vs with
  | nil =>
    intro pre mid post w h hl
    have : mid = [] := List.eq_nil_of_length_eq_zero hl
    subst this
    exact ⟨h, grown_self _ _⟩
  | cons v vs ih =>
    intro pre mid post w h hl
    match mid, hl with
    | m0 :: mid, hl =>
      have hl' : mid.length = vs.length := by simpa using hl
      have h1 : (w.setCell ⟨b, pre.length, none⟩ v).heap[b]? = some (.cells ((pre ++ [v]) ++ (mid ++ post)).toArray t (0, 0)) := by
        simp only [World.setCell, Array.getElem?_modify, h, Option.map_some, if_true]
        simp
      obtain ⟨g1, g2⟩ := ih (pre ++ [v]) mid post (w.setCell ⟨b, pre.length, none⟩ v) h1 hl'
      rw [List.length_append, List.length_singleton] at g1 g2
      have g1' : (((w.setCell ⟨b, pre.length, none⟩ v).setCells b (pre.length + 1) vs).heap[b]?) = some (.cells (pre ++ (v :: vs ++ post)).toArray t (0, 0)) := by
        rw [g1]; simp
      exact ⟨g1', grown_trans (grown_set _ _ _) g2⟩

def Tb.none_ (k : Tb) : Tb := { k with held := List.replicate 64 false }
theorem Tb.Ok.none_ {k : Tb} (ok : k.Ok) : k.none_.Ok := ⟨ok.n0, ok.n1, ok.lg, by simp [Tb.none_], ok.rng⟩
def falses : List Value := List.replicate 64 (.bool false)

theorem At.clear {w : World} {b : Nat} {k : Tb} (h : At w b k) (ok : k.Ok) : At (w.setCells b 65 falses) b k.none_ ∧ w.grownBy (w.setCells b 65 falses) (some b) := by
  have hg := ok.lg
  have hh := ok.lh
  have e : (Value.int .i64 k.n :: k.gens.map (Value.int .i64)).length = 65 := by simp [hg]
  have h' : w.heap[b]? = some (.cells ((Value.int .i64 k.n :: k.gens.map (Value.int .i64)) ++ (k.held.map Value.bool ++ [])).toArray 53 (0, 0)) := by
    rw [List.append_nil]; exact h
  have := setCells_mid b 53 falses _ _ _ w h' (by simp [falses, hh])
  rw [e, List.append_nil] at this
  refine ⟨?_, this.2⟩
  unfold At
  rw [this.1]
  simp [Tb.cells, Tb.none_, falses]

set_option maxHeartbeats 1000000 in
set_option maxRecDepth 100000 in
theorem clear_any (b : Nat) (k : Tb) (w : World) (h : At w b k) (ok : k.Ok) :
    Calls Try.prog 10 #[.pointer (some ⟨b, 0, none⟩)] w fun e w' => e = .returned (.int .i64 ((heldR k).length : Int)) ∧ At w' b k.none_ ∧ w.grownBy w' (some b) := by
  have hbw : b < w.heap.size := lt_of_block h
  have hne : ∀ w, (binOp .neq 23 (.pointer (some ⟨b, 0, none⟩)) (.pointer none)).run Try.prog w = .ok (.bool true) w := fun _ => by kernel_rfl
  have hlen := cells_len ok
  have hi51 : (Try.prog.info? 51).map (·.size) = some 64 := by kernel_rfl
  have h1f : falses.toArray.all (·.oneCell') = true := all_oneCell_toArray fun v hv => by rw [List.eq_of_mem_replicate hv]; rfl
  have hL : (heldR k).length ≤ 64 := by have := heldTo_len k.held k.n.toNat; have := ok.n1; unfold heldR; omega
  go_enter Try.func10, Try.ntmps10
  go_wp2_with fail
  refine (held_any b k _ h ok).mono ?_
  rintro e w1 ⟨v, rfl, hown, hbel⟩
  have hA1 : At w1 b k := by unfold At at *; rw [hbel.block b hbw]; exact h
  have hG1 : w.grownBy w1 (some b) := ⟨hbel.os, hbel.tape, hbel.output, hbel.size, fun n hn _ => hbel.block n hn⟩
  have hth : w1.there b 65 64 := fun j hj => ⟨by rw [hA1.cell]; simp [hlen]; omega, hA1.free _⟩
  obtain ⟨hA2, hG2⟩ := hA1.clear ok
  have HA2 := Lib.hid (And.intro hA2 (grown_trans hG1 hG2))
  obtain ⟨cap, A, rfl⟩ : ∃ cap A, v = .slice A (heldR k).length cap := by
    obtain ⟨-, ⟨rfl, h0⟩ | ⟨g, cap, cur, rfl, -⟩⟩ := hown
    · exact ⟨0, none, by rw [h0]⟩
    · exact ⟨cap, _, rfl⟩
  clear hA2 hG2 hown hbel hG1 hA1
  go_wp2_with (refine wpList_store_mid rfl 51 _ _ rfl b 65 _ rfl rfl (by exact hth) (by exact hi51) (by exact h1f) ?_)
  go_ret
  exact ⟨rfl, HA2.out⟩

theorem clear_nil (w : World) :
    Calls Try.prog 10 #[.pointer none] w fun e w' => e = .returned (.int .i64 0) ∧ w = w' := by
  have hne : ∀ w, (binOp .neq 23 (.pointer none) (.pointer none)).run Try.prog w = .ok (.bool false) w := fun _ => by kernel_rfl
  go_enter Try.func10, Try.ntmps10
  go_wp2_with fail
  refine (held_nil _).mono ?_
  rintro e w' ⟨rfl, rfl⟩
  go_wp2_with fail
  go_ret
  exact ⟨rfl, rfl⟩

end Go.Proofs.Ytgkjiemjghmgmaa.Grants
