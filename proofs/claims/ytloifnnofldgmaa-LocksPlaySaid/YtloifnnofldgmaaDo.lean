/- Locks: the contract of the law's own 'do': one call, whichever it is. -/
import Derived.Test.YtloifnnofldgmaaSame
namespace Go.Proofs.Ytloifnnofldgmaa.Locks
set_option linter.unusedVariables false
set_option linter.unusedSimpArgs false
open Go.RowKit

theorem At.alloc {w : World} {b : Nat} {k : Bk} (h : At w b k) (o : Obj) : At (w.alloc o) b k := by
  unfold At at *
  rw [heap_alloc_old _ _ (lt_of_block h)]; exact h

/-- What a call tells: (the bank, what is told, the error). -/
def doR (k : Bk) (kind c i : Int) : Bk × Int × Int :=
  if kind = 0 then ((tryR k c i).1, (if (tryR k c i).2.1 = true then 1 else 0), (tryR k c i).2.2)
  else if kind = 1 then ((freeR k c i).1, 0, (freeR k c i).2)
  else if kind = 3 then relR k c
  else (k, ownerR k i, lockE k.n i)

set_option maxHeartbeats 1000000 in
theorem do_any (b : Nat) (kind c i : Int) (k : Bk) (w : World) (h : At w b k) (ok : k.Ok) :
    Calls Try.prog 9 #[.pointer (some ⟨b, 0, none⟩), .agg #[.int .i64 kind, .int .i64 c, .int .i64 i]] w fun e w' =>
      e = .returned (.tuple #[.int .i64 (doR k kind c i).2.1, .int .i64 (doR k kind c i).2.2]) ∧ At w' b (doR k kind c i).1 ∧ w.grownBy w' (some b) := by
  unfold doR
  have hg : ∀ o, w.grownBy (w.alloc o) (some b) := fun o => World.grownBy_alloc w o _
  by_cases h0 : kind = 0
  · rw [if_pos h0]
    subst h0
    cases ht : (tryR k c i).2.1
    · have HT := Lib.hid ht; clear ht
      go_enter Try.func9, Try.ntmps9
      go_wp2_with fail
      refine (try_any b c i k _ (h.alloc _) ok).mono ?_
      rintro e w1 ⟨rfl, hA, hG⟩
      rw [HT.out]
      have HH := Lib.hid (And.intro hA (grown_trans (hg _) hG))
      clear hA hG
      go_wp2_with fail
      go_ret2
      exact ⟨rfl, HH.out⟩
    · have HT := Lib.hid ht; clear ht
      go_enter Try.func9, Try.ntmps9
      go_wp2_with fail
      refine (try_any b c i k _ (h.alloc _) ok).mono ?_
      rintro e w1 ⟨rfl, hA, hG⟩
      rw [HT.out]
      have HH := Lib.hid (And.intro hA (grown_trans (hg _) hG))
      clear hA hG
      go_wp2_with fail
      go_ret2
      exact ⟨rfl, HH.out⟩
  · rw [if_neg h0]
    have hb0 : (kind == 0) = false := by rw [beq_eq_false_iff_ne]; exact h0
    by_cases h1 : kind = 1
    · rw [if_pos h1]
      subst h1
      clear h0 hb0
      go_enter Try.func9, Try.ntmps9
      go_wp2_with fail
      refine (free_any b c i k _ (h.alloc _) ok).mono ?_
      rintro e w1 ⟨rfl, hA, hG⟩
      have HH := Lib.hid (And.intro hA (grown_trans (hg _) hG))
      clear hA hG
      go_wp2_with fail
      go_ret2
      exact ⟨rfl, HH.out⟩
    · rw [if_neg h1]
      have hb1 : (kind == 1) = false := by rw [beq_eq_false_iff_ne]; exact h1
      by_cases h3 : kind = 3
      · rw [if_pos h3]
        subst h3
        clear h0 hb0 h1 hb1
        go_enter Try.func9, Try.ntmps9
        go_wp2_with fail
        refine (release_any b c k _ (h.alloc _) ok).mono ?_
        rintro e w1 ⟨rfl, hA, hG⟩
        have HH := Lib.hid (And.intro hA (grown_trans (hg _) hG))
        clear hA hG
        go_wp2_with fail
        go_ret2
        exact ⟨rfl, HH.out⟩
      · rw [if_neg h3]
        have hb3 : (kind == 3) = false := by rw [beq_eq_false_iff_ne]; exact h3
        clear h0 h1 h3
        go_enter Try.func9, Try.ntmps9
        go_wp2_with fail
        refine (owner_any b i k _ (h.alloc _) ok).mono ?_
        rintro e w1 ⟨rfl, rfl⟩
        have HH := Lib.hid (hg (.cells #[.int .i64 kind, .int .i64 c, .int .i64 i] 28))
        go_wp2_with fail
        go_ret2
        exact ⟨rfl, h.alloc _, HH.out⟩

theorem owner_nil (i : Int) (w : World) :
    Calls Try.prog 10 #[.pointer none, .int .i64 i] w fun e w' => e = .returned (.tuple #[.int .i64 0, .int .i64 1]) ∧ w = w' := by
  go_enter Try.func10, Try.ntmps10
  go_wp2_with fail
  refine (lock_nil i _).mono ?_
  rintro e w' ⟨rfl, rfl⟩
  go_wp2_with fail
  go_ret2
  exact ⟨rfl, rfl⟩

theorem try_nil (c i : Int) (w : World) :
    Calls Try.prog 19 #[.pointer none, .int .i64 c, .int .i64 i] w fun e w' => e = .returned (.tuple #[.bool false, .int .i64 1]) ∧ w = w' := by
  go_enter Try.func19, Try.ntmps19
  go_wp2_with fail
  refine (both_nil c i _).mono ?_
  rintro e w' ⟨rfl, rfl⟩
  go_wp2_with fail
  go_ret2
  exact ⟨rfl, rfl⟩

theorem free_nil (c i : Int) (w : World) :
    Calls Try.prog 20 #[.pointer none, .int .i64 c, .int .i64 i] w fun e w' => e = .returned (.int .i64 1) ∧ w = w' := by
  go_enter Try.func20, Try.ntmps20
  go_wp2_with fail
  refine (both_nil c i _).mono ?_
  rintro e w' ⟨rfl, rfl⟩
  go_wp2_with fail
  go_ret
  exact ⟨rfl, rfl⟩

theorem release_nil (c : Int) (w : World) :
    Calls Try.prog 21 #[.pointer none, .int .i64 c] w fun e w' => e = .returned (.tuple #[.int .i64 0, .int .i64 1]) ∧ w = w' := by
  go_enter Try.func21, Try.ntmps21
  go_wp2_with fail
  refine (core_nil c _).mono ?_
  rintro e w' ⟨rfl, rfl⟩
  go_wp2_with fail
  go_ret2
  exact ⟨rfl, rfl⟩

theorem held_nil (c : Int) (w : World) :
    Calls Try.prog 18 #[.pointer none, .int .i64 c] w fun e w' => e = .returned (.slice none 0 0) ∧ w = w' := by
  go_enter Try.func18, Try.ntmps18
  go_wp2_with fail
  refine (core_nil c _).mono ?_
  rintro e w' ⟨rfl, rfl⟩
  go_wp2_with fail
  go_ret
  exact ⟨rfl, rfl⟩

theorem clone_nil (w : World) :
    Calls Try.prog 15 #[.pointer none] w fun e w' => e = .returned (.pointer none) ∧ w = w' := by
  go_enter Try.func15, Try.ntmps15
  go_wp2_with fail
  go_ret
  exact ⟨rfl, rfl⟩

set_option maxHeartbeats 1000000 in
theorem do_nil (kind c i : Int) (w : World) :
    Calls Try.prog 9 #[.pointer none, .agg #[.int .i64 kind, .int .i64 c, .int .i64 i]] w fun e w' =>
      e = .returned (.tuple #[.int .i64 0, .int .i64 1]) ∧ Below w.heap.size w w' := by
  have hg : ∀ o, Below w.heap.size w (w.alloc o) := fun o => (Below.refl _ _).alloc (Nat.le_refl _) _
  by_cases h0 : kind = 0
  · subst h0
    go_enter Try.func9, Try.ntmps9
    go_wp2_with fail
    refine (try_nil c i _).mono ?_
    rintro e w1 ⟨rfl, rfl⟩
    go_wp2_with fail
    go_ret2
    exact ⟨rfl, hg _⟩
  · have hb0 : (kind == 0) = false := by rw [beq_eq_false_iff_ne]; exact h0
    by_cases h1 : kind = 1
    · subst h1
      clear h0 hb0
      go_enter Try.func9, Try.ntmps9
      go_wp2_with fail
      refine (free_nil c i _).mono ?_
      rintro e w1 ⟨rfl, rfl⟩
      go_wp2_with fail
      go_ret2
      exact ⟨rfl, hg _⟩
    · have hb1 : (kind == 1) = false := by rw [beq_eq_false_iff_ne]; exact h1
      by_cases h3 : kind = 3
      · subst h3
        clear h0 hb0 h1 hb1
        go_enter Try.func9, Try.ntmps9
        go_wp2_with fail
        refine (release_nil c _).mono ?_
        rintro e w1 ⟨rfl, rfl⟩
        go_wp2_with fail
        go_ret2
        exact ⟨rfl, hg _⟩
      · have hb3 : (kind == 3) = false := by rw [beq_eq_false_iff_ne]; exact h3
        clear h0 h1 h3
        go_enter Try.func9, Try.ntmps9
        go_wp2_with fail
        refine (owner_nil i _).mono ?_
        rintro e w1 ⟨rfl, rfl⟩
        go_wp2_with fail
        go_ret2
        exact ⟨rfl, hg _⟩

end Go.Proofs.Ytloifnnofldgmaa.Locks
