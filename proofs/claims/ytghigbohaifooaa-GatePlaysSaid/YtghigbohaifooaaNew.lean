/- Gate: the contracts of Down, New and Clone. -/
import Derived.Test.YtghigbohaifooaaHold
import Derived.Deep.MidRow
import Derived.Deep.WholeRow
import Derived.Laws.Rows
import Derived.OwnWalk
namespace Go.Proofs.Ytghigbohaifooaa.Gates
set_option linter.unusedVariables false
set_option linter.unusedSimpArgs false
open Go.RowKit

/-- The numbers below m of the cores that are held. -/
def downTo (held : List Bool) (m : Nat) : List Int := ((List.range m).filter fun j => held.getD j false).map fun j : Nat => (j : Int)
theorem downTo_zero (held : List Bool) : downTo held 0 = [] := rfl
theorem downTo_yes (held : List Bool) (m : Nat) (h : held.getD m false = true) : downTo held (m + 1) = downTo held m ++ [(m : Int)] := by
  unfold downTo
  rw [List.range_succ, List.filter_append, List.map_append, List.filter_cons_of_pos (p := fun j => held.getD j false) h]
  rfl
theorem downTo_no (held : List Bool) (m : Nat) (h : held.getD m false = false) : downTo held (m + 1) = downTo held m := by
  unfold downTo
  rw [List.range_succ, List.filter_append, List.map_append, List.filter_cons_of_neg (p := fun j => held.getD j false) (by rw [h]; simp)]
  simp
theorem downTo_len (held : List Bool) (m : Nat) : (downTo held m).length ≤ m := by
  unfold downTo
  rw [List.length_map]
  exact Nat.le_trans (List.length_filter_le _ _) (by simp)

def downR (k : Gt) : List Int := downTo k.held k.cores.toNat

theorem Try.info3 : (Try.prog.info? 3).map (fun i => (i.zero, i.size, i.bytes)) = some (some (.int .i64 0), 1, 8) := by kernel_rfl

theorem own_base {w : World} {base : Nat} {e : TypeId} {size : Nat} {v : Value} {n : Nat} {xs : List Value} (h : w.ownsRow base e size v n xs) : ∀ k, v.ownBlock = some k → base ≤ k := by
  rintro k hk
  obtain ⟨-, ⟨rfl, -⟩ | ⟨g, cap, cur, rfl, hg, -⟩⟩ := h
  · simp [Value.ownBlock] at hk
  · simp [Value.ownBlock] at hk; omega

set_option maxHeartbeats 1000000 in
theorem down_any (b : Nat) (k : Gt) (w : World) (h : At w b k) (ok : k.Ok) :
    Calls Try.prog 17 #[.pointer (some ⟨b, 0, none⟩)] w fun e w' => ∃ v, e = .returned v ∧ w'.ownsRow w.heap.size 3 1 v (downR k).length ((downR k).map (Value.int .i64)) ∧ Below w.heap.size w w' := by
  have h0 := h.cores
  have hbw : b < w.heap.size := lt_of_block h
  have hc0 := ok.c0
  have hc1 := ok.c1
  unfold downR
  obtain ⟨n, hn⟩ := Int.eq_ofNat_of_zero_le (by omega : 0 ≤ k.cores)
  rw [hn] at h0 hc0 hc1 ⊢
  rw [Int.toNat_natCast]
  have HN := Lib.hid hn; clear hn
  obtain ⟨i0, hi, hz0, hz1, hz2⟩ := info_parts Try.info3
  go_enter Try.func17, Try.ntmps17
  go_wp2_with fail
  go_loopw [3, 11] (fun v i wr => ∃ m : Nat, m ≤ n ∧ i = .int .i64 m ∧ wr.ownsRow w.heap.size 3 1 v (downTo k.held m).length ((downTo k.held m).map (Value.int .i64)) ∧ Below w.heap.size w wr)
    (fun _ i _ => n - (intOf i).toNat)
  case atStart => exact ⟨0, by omega, rfl, World.ownsRow_nil _ _ _ _, Below.refl _ _⟩
  case round =>
    obtain ⟨m, hm, rfl, hown, hbel⟩ := hrel
    by_cases hlt : m < n
    · have hL := downTo_len k.held m
      have hbs := hbel.size
      have hc := (hbel.cell (p := ⟨b, 9 + m, none⟩) hbw).trans (h.up ok m (by omega))
      cases hx : k.held.getD m false
      · have hy := Lib.hid (downTo_no k.held m hx)
        rw [hx] at hc
        clear hx
        go_wp2_with fail
        go_roundw
        case rel => exact ⟨m + 1, by omega, by go_num, by rw [hy.out]; exact hown, hbel⟩
        case measure => simp [intOf]; omega
      · have hy := Lib.hid (downTo_yes k.held m hx)
        rw [hx] at hc
        clear hx
        go_wp2_with (at_builtin; refine wpList_append_own _ rfl _ _ 42 rfl w.heap.size 3 i0 (.int .i64 0) 1 8 Try.underlying42 hi hz0 hz1 hz2 rfl (by decide) _ _ _ rfl (hown.alloc _) ⟨wr.heap.size, 0, none⟩ 1 1 [.int .i64 (m : Int)] rfl rfl ?c1 ?c2 ?c3 ?c4 ?c5 ?_)
        case c1 =>
          intro j u hj
          match j, hj with
          | 0, hj => simp at hj; subst hj; simp [Addr.add]
        case c2 => intro u hu; simp at hu; subst hu; rfl
        case c3 => unfold maxLen; omega
        case c4 => omega
        case c5 => simp; omega
        intro v' w1 hown' hgrow _
        have hb1 : Below w.heap.size w w1 := (hbel.alloc hbs _).grown hgrow (by simp; omega) (own_base hown)
        have hown2 : w1.ownsRow w.heap.size 3 1 v' (downTo k.held (m + 1)).length ((downTo k.held (m + 1)).map (Value.int .i64)) := by
          rw [hy.out]; simpa using hown'
        clear hown' hgrow hown hbel
        go_wp2_with fail
        go_roundw
        case rel => exact ⟨m + 1, by omega, by go_num, hown2, hb1⟩
        case measure => simp [intOf]; omega
    · have hm16 : m = n := by omega
      subst hm16
      go_wp2_with fail
      go_ret
      exact ⟨_, rfl, hown, hbel⟩

theorem down_nil (w : World) :
    Calls Try.prog 17 #[.pointer none] w fun e w' => e = .returned (.slice none 0 0) ∧ w = w' := by
  go_enter Try.func17, Try.ntmps17
  go_wp2_with fail
  go_ret
  exact ⟨rfl, rfl⟩

/-- A new gate. -/
def newGt (c : Int) : Gt := { cores := c, eps := List.replicate 8 0, held := List.replicate 8 false }
def isNew (c : Int) : Prop := 1 ≤ c ∧ c ≤ 8
theorem newGt_ok {c : Int} (h : isNew c) : (newGt c).Ok := ⟨h.1, h.2, by simp [newGt], by simp [newGt], fun x hx => by simp [newGt] at hx; omega⟩

set_option maxHeartbeats 400000 in
theorem new_no (c : Int) (w : World) (h : ¬ isNew c) :
    Calls Try.prog 6 #[.int .i64 c] w fun e w' => e = .returned (.pointer none) ∧ w = w' := by
  unfold isNew at h
  by_cases h1 : c < 1
  · go_enter Try.func6, Try.ntmps6
    go_wp2_with fail
    go_ret
    exact ⟨rfl, rfl⟩
  · have h2 : 8 < c := by omega
    go_enter Try.func6, Try.ntmps6
    go_wp2_with fail
    go_ret
    exact ⟨rfl, rfl⟩

set_option maxHeartbeats 400000 in
theorem new_yes (c : Int) (w : World) (h : isNew c) :
    Calls Try.prog 6 #[.int .i64 c] w fun e w' => e = .returned (.pointer (some ⟨w.heap.size, 0, none⟩)) ∧ At w' w.heap.size (newGt c) ∧ Below w.heap.size w w' ∧ w.heap.size < w'.heap.size := by
  obtain ⟨h1, h2⟩ := h
  go_enter Try.func6, Try.ntmps6
  go_wp2_with fail
  go_ret
  refine ⟨rfl, ?_, (Below.refl _ _).alloc (Nat.le_refl _) _, by simp⟩
  exact heap_alloc_new w _

theorem cells_len {k : Gt} (ok : k.Ok) : k.cells.length = 17 := by simp [Gt.cells, ok.le, ok.lh]
theorem info59 : (Try.prog.info? 59).map (·.size) = some 17 := by kernel_rfl
theorem cells_one (k : Gt) : k.cells.toArray.all (·.oneCell') = true := all_oneCell_toArray fun v hv => by
  simp only [Gt.cells, List.mem_cons, List.mem_append, List.mem_map] at hv
  rcases hv with rfl | ⟨x, -, rfl⟩ | ⟨x, -, rfl⟩ <;> rfl

set_option maxHeartbeats 400000 in
theorem clone_any (b : Nat) (k : Gt) (w : World) (h : At w b k) (ok : k.Ok) :
    Calls Try.prog 22 #[.pointer (some ⟨b, 0, none⟩)] w fun e w' => e = .returned (.pointer (some ⟨w.heap.size, 0, none⟩)) ∧ At w' w.heap.size k ∧ Below w.heap.size w w' ∧ w.heap.size < w'.heap.size := by
  have hu59 := Try.underlying59
  have hlen := cells_len ok
  have hi59 : (Try.prog.info? 59).map (·.size) = some k.cells.toArray.size := by
    rw [List.size_toArray, hlen]; exact info59
  have hbk : w.heap[b]? = some (.cells k.cells.toArray 59 (0, 0)) := h
  have h1 := cells_one k
  have hst : ∀ (w : World) (c : Array Value), c.size = 17 → (storeCells ⟨w.heap.size, 0, none⟩ k.cells).run Try.prog (w.alloc (.cells c 59)) = .ok () (w.alloc (.cells k.cells.toArray 59)) := fun w c hc => by
    have := run_storeCells_new (P := Try.prog) w 59 c k.cells.toArray hi59 (by rw [hc, List.size_toArray, hlen]) h1
    simpa using this
  have hfin : At (w.alloc (.cells k.cells.toArray 59)) w.heap.size k := heap_alloc_new w _
  have HF := Lib.hid hfin; clear hfin h1
  go_enter Try.func22, Try.ntmps22
  go_wp2_with (refine wpList_load_row rfl 59 _ rfl b rfl 59 _ _ _ hbk hu59 rfl hi59 ?_)
  go_ret
  exact ⟨rfl, HF.out, (Below.refl _ _).alloc (Nat.le_refl _) _, by simp⟩

theorem clone_nil (w : World) :
    Calls Try.prog 22 #[.pointer none] w fun e w' => e = .returned (.pointer none) ∧ w = w' := by
  go_enter Try.func22, Try.ntmps22
  go_wp2_with fail
  go_ret
  exact ⟨rfl, rfl⟩

end Go.Proofs.Ytghigbohaifooaa.Gates
