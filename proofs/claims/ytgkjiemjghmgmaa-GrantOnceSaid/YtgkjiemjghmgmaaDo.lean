/- Grant: the contracts of the law's own 'do' and 'alive'. -/
import Derived.Test.YtgkjiemjghmgmaaNew
namespace Go.Proofs.Ytgkjiemjghmgmaa.Grants
set_option linter.unusedVariables false
set_option linter.unusedSimpArgs false
open Go.RowKit

/-- What a call tells: (the table, what is told, the error or 1 for true). -/
def doR (k : Tb) (kind x : Int) : Tb × Int × Int :=
  if kind = 0 then ((giveR k x).1, (giveR k x).2.1, (if (giveR k x).2.2 = true then 1 else 0))
  else if kind = 1 ∨ kind = 3 then ((dropR k x).1, 0, (dropR k x).2)
  else if kind = 2 then (k.none_, ((heldR k).length : Int), 0)
  else (k, (slotR k x).1, (if (slotR k x).2 = true then 1 else 0))

theorem giveR_ok {k : Tb} (ok : k.Ok) (i : Int) : (giveR k i).1.Ok := by
  unfold giveR
  split
  · exact (ok.gen _ _ (by omega) (by omega)).hold _ _
  · exact ok
theorem dropR_ok {k : Tb} (ok : k.Ok) (x : Int) : (dropR k x).1.Ok := by
  unfold dropR
  split
  · exact ok.hold _ _
  · exact ok
theorem doR_ok {k : Tb} (ok : k.Ok) (kind x : Int) : (doR k kind x).1.Ok := by
  unfold doR
  split
  · exact giveR_ok ok x
  · split
    · exact dropR_ok ok x
    · split
      · exact ok.none_
      · exact ok
theorem doR_n (k : Tb) (kind x : Int) : (doR k kind x).1.n = k.n := by
  unfold doR giveR dropR
  repeat' split
  all_goals rfl

set_option maxHeartbeats 2000000 in
theorem do_any (b : Nat) (kind x : Int) (k : Tb) (w : World) (h : At w b k) (ok : k.Ok) :
    Calls Try.prog 17 #[.pointer (some ⟨b, 0, none⟩), .agg #[.int .i64 kind, .int .i64 x]] w fun e w' =>
      e = .returned (.tuple #[.int .i64 (doR k kind x).2.1, .int .i64 (doR k kind x).2.2]) ∧ At w' b (doR k kind x).1 ∧ w.grownBy w' (some b) := by
  unfold doR
  have hg : ∀ o, w.grownBy (w.alloc o) (some b) := fun o => World.grownBy_alloc w o _
  by_cases h0 : kind = 0
  · rw [if_pos h0]
    subst h0
    cases ht : (giveR k x).2.2
    all_goals
      have HT := Lib.hid ht; clear ht
      go_enter Try.func17, Try.ntmps17
      go_wp2_with fail
      refine (give_any b x k _ (h.alloc _) ok).mono ?_
      rintro e w1 ⟨rfl, hA, hG⟩
      rw [HT.out]
      have HH := Lib.hid (And.intro hA (grown_trans (hg _) hG))
      clear hA hG
      go_wp2_with fail
      go_ret2
      exact ⟨rfl, HH.out⟩
  · rw [if_neg h0]
    have hb0 : (kind == 0) = false := by rw [beq_eq_false_iff_ne]; exact h0
    by_cases h13 : kind = 1 ∨ kind = 3
    · rw [if_pos h13]
      clear h0
      rcases h13 with rfl | rfl
      all_goals
        clear hb0
        go_enter Try.func17, Try.ntmps17
        go_wp2_with fail
        refine (drop_any b x k _ (h.alloc _) ok).mono ?_
        rintro e w1 ⟨rfl, hA, hG⟩
        have HH := Lib.hid (And.intro hA (grown_trans (hg _) hG))
        clear hA hG
        go_wp2_with fail
        go_ret2
        exact ⟨rfl, HH.out⟩
    · rw [if_neg h13]
      have hb1 : (kind == 1) = false := by rw [beq_eq_false_iff_ne]; omega
      have hb3 : (kind == 3) = false := by rw [beq_eq_false_iff_ne]; omega
      by_cases h2 : kind = 2
      · rw [if_pos h2]
        subst h2
        clear h0 hb0 h13 hb1 hb3
        go_enter Try.func17, Try.ntmps17
        go_wp2_with fail
        refine (clear_any b k _ (h.alloc _) ok).mono ?_
        rintro e w1 ⟨rfl, hA, hG⟩
        have HH := Lib.hid (And.intro hA (grown_trans (hg _) hG))
        clear hA hG
        go_wp2_with fail
        go_ret2
        exact ⟨rfl, HH.out⟩
      · rw [if_neg h2]
        have hb2 : (kind == 2) = false := by rw [beq_eq_false_iff_ne]; exact h2
        clear h0 h13 h2
        cases ht : (slotR k x).2
        all_goals
          have HT := Lib.hid ht; clear ht
          go_enter Try.func17, Try.ntmps17
          go_wp2_with fail
          refine (slot_any b x k _ (h.alloc _) ok).mono ?_
          rintro e w1 ⟨rfl, rfl⟩
          rw [HT.out]
          have HH := Lib.hid (hg (.cells #[.int .i64 kind, .int .i64 x] 28))
          have HA0 := Lib.hid (h.alloc (.cells #[.int .i64 kind, .int .i64 x] 28))
          go_wp2_with fail
          go_ret2
          exact ⟨rfl, HA0.out, HH.out⟩

theorem give_nil (i : Int) (w : World) :
    Calls Try.prog 8 #[.pointer none, .int .i64 i] w fun e w' => e = .returned (.tuple #[.int .i64 0, .bool false]) ∧ w = w' := by
  by_cases hi0 : i < 0
  · go_enter Try.func8, Try.ntmps8
    go_wp2_with fail
    go_ret2
    exact ⟨rfl, rfl⟩
  · have hi1 : 0 ≤ i := by omega
    go_enter Try.func8, Try.ntmps8
    go_wp2_with fail
    refine (len_nil _).mono ?_
    rintro e w' ⟨rfl, rfl⟩
    go_wp2_with fail
    go_ret2
    exact ⟨rfl, rfl⟩

set_option maxHeartbeats 2000000 in
theorem do_nil (kind x : Int) (w : World) :
    Calls Try.prog 17 #[.pointer none, .agg #[.int .i64 kind, .int .i64 x]] w fun e w' =>
      e = .returned (.tuple #[.int .i64 0, .int .i64 (if kind = 1 ∨ kind = 3 then 1 else 0)]) ∧ Below w.heap.size w w' := by
  have hg : ∀ o, Below w.heap.size w (w.alloc o) := fun o => (Below.refl _ _).alloc (Nat.le_refl _) _
  by_cases h0 : kind = 0
  · rw [if_neg (by omega)]
    subst h0
    go_enter Try.func17, Try.ntmps17
    go_wp2_with fail
    refine (give_nil x _).mono ?_
    rintro e w1 ⟨rfl, rfl⟩
    go_wp2_with fail
    go_ret2
    exact ⟨rfl, hg _⟩
  · have hb0 : (kind == 0) = false := by rw [beq_eq_false_iff_ne]; exact h0
    by_cases h13 : kind = 1 ∨ kind = 3
    · rw [if_pos h13]
      clear h0
      rcases h13 with rfl | rfl
      all_goals
        clear hb0
        go_enter Try.func17, Try.ntmps17
        go_wp2_with fail
        refine (drop_nil x _).mono ?_
        rintro e w1 ⟨rfl, rfl⟩
        go_wp2_with fail
        go_ret2
        exact ⟨rfl, hg _⟩
    · rw [if_neg h13]
      have hb1 : (kind == 1) = false := by rw [beq_eq_false_iff_ne]; omega
      have hb3 : (kind == 3) = false := by rw [beq_eq_false_iff_ne]; omega
      by_cases h2 : kind = 2
      · subst h2
        clear h0 hb0 h13 hb1 hb3
        go_enter Try.func17, Try.ntmps17
        go_wp2_with fail
        refine (clear_nil _).mono ?_
        rintro e w1 ⟨rfl, rfl⟩
        go_wp2_with fail
        go_ret2
        exact ⟨rfl, hg _⟩
      · have hb2 : (kind == 2) = false := by rw [beq_eq_false_iff_ne]; exact h2
        clear h0 h13 h2
        go_enter Try.func17, Try.ntmps17
        go_wp2_with fail
        refine (slot_nil x _).mono ?_
        rintro e w1 ⟨rfl, rfl⟩
        go_wp2_with fail
        go_ret2
        exact ⟨rfl, hg _⟩

set_option maxHeartbeats 1000000 in
theorem alive_any (w : World) : Calls Try.prog 7 #[] w fun e w' => e = .returned (.bool true) ∧ Below w.heap.size w w' := by
  have hn : isNew 4 := by unfold isNew; omega
  have ok0 := newTb_ok hn
  go_enter Try.func7, Try.ntmps7
  go_wp2_with fail
  refine (new_yes 4 _ hn).mono ?_
  rintro e w1 ⟨rfl, hA1, hB1, hs1⟩
  go_wp2_with fail
  refine (give_any _ 2 _ _ hA1 ok0).mono ?_
  rintro e w2 ⟨rfl, hA2, hG2⟩
  have e2 : (giveR (newTb 4) 2).2 = (66, true) := by decide +kernel
  rw [e2]
  have ok2 := giveR_ok ok0 2
  have hB2 := below_grown hB1 hG2 (by omega) (Nat.le_refl _)
  have hs2 := hG2.size
  clear e2 hG2
  generalize hk2 : (giveR (newTb 4) 2).1 = k2 at *
  have HK2 := Lib.hid hk2; clear hk2
  go_wp2_with fail
  refine (drop_any _ 66 _ _ hA2 ok2).mono ?_
  rintro e w3 ⟨rfl, hA3, hG3⟩
  have e3 : (dropR k2 66).2 = 0 := by rw [← HK2.out]; decide +kernel
  rw [e3]
  have ok3 := dropR_ok ok2 66
  have hB3 := below_grown hB2 hG3 (by omega) (Nat.le_refl _)
  have hs3 := hG3.size
  clear e3 hG3
  generalize hk3 : (dropR k2 66).1 = k3 at *
  have HK3 := Lib.hid hk3; clear hk3
  go_wp2_with fail
  refine (drop_any _ 66 _ _ hA3 ok3).mono ?_
  rintro e w4 ⟨rfl, hA4, hG4⟩
  have e4 : (dropR k3 66).2 = 7 := by rw [← HK3.out, ← HK2.out]; decide +kernel
  rw [e4]
  have ok4 := dropR_ok ok3 66
  have hB4 := below_grown hB3 hG4 (by omega) (Nat.le_refl _)
  have hs4 := hG4.size
  clear e4 hG4
  generalize hk4 : (dropR k3 66).1 = k4 at *
  have HK4 := Lib.hid hk4; clear hk4
  go_wp2_with fail
  refine (give_any _ 2 _ _ hA4 ok4).mono ?_
  rintro e w5 ⟨rfl, hA5, hG5⟩
  have e5 : (giveR k4 2).2 = (130, true) := by rw [← HK4.out, ← HK3.out, ← HK2.out]; decide +kernel
  rw [e5]
  have hB5 := below_grown hB4 hG5 (by omega) (Nat.le_refl _)
  clear e5 hG5
  go_wp2_with fail
  go_ret
  exact ⟨rfl, hB5⟩

end Go.Proofs.Ytgkjiemjghmgmaa.Grants
