/- Locks: the contracts of Held: the numbers of the locks that a core has, in a slice of its own. -/
import Derived.Test.YtloifnnofldgmaaBase
import Derived.Deep.MidRow
import Derived.Laws.Rows
import Derived.Maps.AppendAt
import Derived.OwnWalk
import Derived.ChangeKeysEq
namespace Go.Proofs.Ytloifnnofldgmaa.Locks
set_option linter.unusedVariables false
set_option linter.unusedSimpArgs false
open Go.RowKit

/-- The numbers below m of the locks that a core has. -/
def heldTo (own : List Int) (c : Int) (m : Nat) : List Int := ((List.range m).filter fun j => own.getD j 0 == c + 1).map fun j : Nat => (j : Int)

theorem heldTo_zero (own : List Int) (c : Int) : heldTo own c 0 = [] := rfl
theorem heldTo_yes (own : List Int) (c : Int) (m : Nat) (h : own.getD m 0 = c + 1) : heldTo own c (m + 1) = heldTo own c m ++ [(m : Int)] := by
  unfold heldTo
  rw [List.range_succ, List.filter_append, List.map_append, List.filter_cons_of_pos (by simp only [beq_iff_eq]; exact h)]
  rfl
theorem heldTo_no (own : List Int) (c : Int) (m : Nat) (h : own.getD m 0 ≠ c + 1) : heldTo own c (m + 1) = heldTo own c m := by
  unfold heldTo
  rw [List.range_succ, List.filter_append, List.map_append, List.filter_cons_of_neg (by simp only [beq_iff_eq]; exact h)]
  simp
theorem heldTo_len (own : List Int) (c : Int) (m : Nat) : (heldTo own c m).length ≤ m := by
  unfold heldTo
  rw [List.length_map]
  exact Nat.le_trans (List.length_filter_le _ _) (by simp)

def heldR (k : Bk) (c : Int) : List Int := if coreE k.cores c = 0 then heldTo k.own c 16 else []

theorem Try.info3 : (Try.prog.info? 3).map (fun i => (i.zero, i.size, i.bytes)) = some (some (.int .i64 0), 1, 8) := by kernel_rfl
theorem Try.info49 : (Try.prog.info? 49).map (·.size) = some 16 := by kernel_rfl

theorem index_own (own : List Int) (hl : own.length = 16) (j : Nat) (hj : j < 16) (w : World) :
    (Instr.index 49 (.agg (own.map (Value.int .i64)).toArray) (.int .i64 (j : Int))).run Try.prog w = .ok (.int .i64 (own.getD j 0)) w := by
  have hu := Try.underlying49
  have hs : (sizeOf 3).run Try.prog w = .ok 1 w := by kernel_rfl
  have hb : (0 : Int) ≤ (j : Int) ∧ (j : Int) < 16 := by omega
  unfold Instr.index
  simp [asIntOf, hu, hs, hb, go_sem]
  rw [if_pos hj]
  simp [hl, hj]

theorem own_base {w : World} {base : Nat} {e : TypeId} {size : Nat} {v : Value} {n : Nat} {xs : List Value} (h : w.ownsRow base e size v n xs) : ∀ k, v.ownBlock = some k → base ≤ k := by
  rintro k hk
  obtain ⟨-, ⟨rfl, -⟩ | ⟨g, cap, cur, rfl, hg, -⟩⟩ := h
  · simp [Value.ownBlock] at hk
  · simp [Value.ownBlock] at hk; omega

theorem own_range {w : World} {b : Nat} {k : Bk} (h : At w b k) : w.rangeAt b 2 (k.own.map (Value.int .i64)) := fun j v hv => by
  rw [h.cell, Nat.add_comm]
  simpa [Bk.cells] using hv

set_option maxHeartbeats 1000000 in
theorem held_any (b : Nat) (c : Int) (k : Bk) (w : World) (h : At w b k) (ok : k.Ok) :
    Calls Try.prog 18 #[.pointer (some ⟨b, 0, none⟩), .int .i64 c] w fun e w' => ∃ v, e = .returned v ∧ w'.ownsRow w.heap.size 3 1 v (heldR k c).length ((heldR k c).map (Value.int .i64)) ∧ Below w.heap.size w w' := by
  have h0 := h.cores
  unfold heldR
  by_cases hc : coreE k.cores c = 0
  · rw [if_pos hc]
    have hc8 : 0 ≤ c ∧ c < 8 := by unfold coreE at hc; have := ok.c1; by_cases q : 0 ≤ c ∧ c < k.cores; omega; rw [if_neg q] at hc; omega
    have hc0 := hc8.1
    have hc1 := hc8.2
    have hb : (coreE k.cores c != 0) = false := by rw [hc]; rfl
    have Hc := Lib.hid hc; clear hc hc8
    have hl := ok.len
    have hrow := own_range h
    have hu49 := Try.underlying49
    have hlen : (k.own.map (Value.int .i64)).length = 16 := by simp [hl]
    have HI := Lib.hid (index_own k.own hl)
    have Hl := Lib.hid hl; clear hl
    go_enter Try.func18, Try.ntmps18
    go_wp2_with fail
    refine (core_any b c k.cores _ h0).mono ?_
    rintro e w' ⟨rfl, rfl⟩
    go_wp2_with (refine wpList_load_mid rfl 49 _ rfl b 2 rfl _ _ hrow hu49 rfl (by rw [hlen]; exact Try.info49) ?_)
    obtain ⟨i0, hi, hz0, hz1, hz2⟩ := info_parts Try.info3
    go_loopw [5, 16] (fun v i wr => ∃ m : Nat, m ≤ 16 ∧ i = .int .i64 m ∧ wr.ownsRow w.heap.size 3 1 v (heldTo k.own c m).length ((heldTo k.own c m).map (Value.int .i64)) ∧ Below w.heap.size w wr)
      (fun _ i _ => 16 - (intOf i).toNat)
    case atStart => exact ⟨0, by omega, rfl, World.ownsRow_nil _ _ _ _, Below.refl _ _⟩
    case round =>
      obtain ⟨m, hm, rfl, hown, hbel⟩ := hrel
      by_cases hlt : m < 16
      · have hix := HI.out m hlt
        have hL := heldTo_len k.own c m
        have hbs := hbel.size
        by_cases hx : k.own.getD m 0 = c + 1
        · have hy := Lib.hid (heldTo_yes k.own c m hx)
          rw [hx] at hix
          clear hx
          go_wp2_with (at_builtin; refine wpList_append_own _ rfl _ _ 36 rfl w.heap.size 3 i0 (.int .i64 0) 1 8 Try.underlying36 hi hz0 hz1 hz2 rfl (by decide) _ _ _ rfl (hown.alloc _) ⟨wr.heap.size, 0, none⟩ 1 1 [.int .i64 (m : Int)] rfl rfl ?c1 ?c2 ?c3 ?c4 ?c5 ?_)
          case c1 =>
            intro j u hj
            match j, hj with
            | 0, hj => simp at hj; subst hj; simp [Addr.add]
          case c2 => intro u hu; simp at hu; subst hu; rfl
          case c3 => unfold maxLen; omega
          case c4 => omega
          case c5 => simp; omega
          intro v' w1 hown' hgrow _
          have hb1 : Below w.heap.size w w1 := (hbel.alloc hbs _).grown hgrow (by simp; omega) (own_base hown)
          have hown2 : w1.ownsRow w.heap.size 3 1 v' (heldTo k.own c (m + 1)).length ((heldTo k.own c (m + 1)).map (Value.int .i64)) := by
            rw [hy.out]; simpa using hown'
          clear hown' hgrow hown hbel
          go_wp2_with fail
          go_roundw
          case rel => exact ⟨m + 1, by omega, by go_num, hown2, hb1⟩
          case measure => simp [intOf]; omega
        · have hy := Lib.hid (heldTo_no k.own c m hx)
          have hb2 : (k.own.getD m 0 == c + 1) = false := by rw [beq_eq_false_iff_ne]; exact hx
          generalize k.own.getD m 0 = x at *
          clear hx
          go_wp2_with fail
          go_roundw
          case rel => exact ⟨m + 1, by omega, by go_num, by rw [hy.out]; exact hown, hbel⟩
          case measure => simp [intOf]; omega
      · have hm16 : m = 16 := by omega
        subst hm16
        go_wp2_with fail
        go_ret
        exact ⟨_, rfl, hown, hbel⟩
  · rw [if_neg hc]
    have hb : (coreE k.cores c != 0) = true := by rw [bne_iff_ne]; exact hc
    have Hc := Lib.hid hc; clear hc
    go_enter Try.func18, Try.ntmps18
    go_wp2_with fail
    refine (core_any b c k.cores _ h0).mono ?_
    rintro e w' ⟨rfl, rfl⟩
    go_wp2_with fail
    go_ret
    exact ⟨_, rfl, World.ownsRow_nil _ _ _ _, Below.refl _ _⟩

end Go.Proofs.Ytloifnnofldgmaa.Locks
