/- Locks: the contract of the law's own 'alive': the chapter's example is true. -/
import Derived.Test.YtloifnnofldgmaaDo
namespace Go.Proofs.Ytloifnnofldgmaa.Locks
set_option linter.unusedVariables false
set_option linter.unusedSimpArgs false
open Go.RowKit

theorem below_grown {B b : Nat} {a w w' : World} (h : Below B a w) (hg : w.grownBy w' (some b)) (hB : B ≤ w.heap.size) (hb : B ≤ b) : Below B a w' :=
  h.grown hg hB (fun k hk => by simp at hk; omega)

theorem tryR_ok {k : Bk} (ok : k.Ok) (c i : Int) : (tryR k c i).1.Ok := by
  unfold tryR
  split
  · rename_i hb
    obtain ⟨h1, h2, h3, h4⟩ := both_in hb
    have := ok.c1
    split
    · exact ok.put _ _ (by omega) (by omega)
    · exact ok
  · exact ok

theorem freeR_ok {k : Bk} (ok : k.Ok) (c i : Int) : (freeR k c i).1.Ok := by
  unfold freeR
  split
  · split
    · exact ok.put _ _ (by omega) (by omega)
    · exact ok
  · exact ok

theorem without_mem (l : List Int) : ∀ own, (∀ x ∈ own, 0 ≤ x ∧ x ≤ 8) → ∀ x ∈ without own l, 0 ≤ x ∧ x ≤ 8 := by
  induction l with
  | nil => intro own h; exact h
  | cons y l ih =>
    intro own h
    refine ih _ fun x hx => ?_
    rcases List.mem_or_eq_of_mem_set hx with g | g
    · exact h x g
    · omega

theorem relR_ok {k : Bk} (ok : k.Ok) (c : Int) : (relR k c).1.Ok := by
  unfold relR
  split
  · exact ⟨ok.c0, ok.c1, ok.n0, ok.n1, by show (without _ _).length = 16; rw [without_len]; exact ok.len, without_mem _ _ ok.rng⟩
  · exact ok

theorem doR_ok {k : Bk} (ok : k.Ok) (kind c i : Int) : (doR k kind c i).1.Ok := by
  unfold doR
  split
  · exact tryR_ok ok c i
  · split
    · exact freeR_ok ok c i
    · split
      · exact relR_ok ok c
      · exact ok

set_option maxHeartbeats 1000000 in
theorem alive_any (w : World) : Calls Try.prog 8 #[] w fun e w' => e = .returned (.bool true) ∧ Below w.heap.size w w' := by
  have hn : isNew 2 3 := by unfold isNew; omega
  have ok0 := newBk_ok hn
  go_enter Try.func8, Try.ntmps8
  go_wp2_with fail
  refine (new_yes 2 3 _ hn).mono ?_
  rintro e w1 ⟨rfl, hA1, hB1, hs1⟩
  go_wp2_with fail
  refine (try_any _ 0 2 _ _ hA1 ok0).mono ?_
  rintro e w2 ⟨rfl, hA2, hG2⟩
  have e2 : (tryR (newBk 2 3) 0 2).2 = (true, 0) := by decide +kernel
  rw [e2]
  have ok2 := tryR_ok ok0 0 2
  have hB2 := below_grown hB1 hG2 (by omega) (Nat.le_refl _)
  have hs2 := hG2.size
  clear e2 hG2
  generalize hk2 : (tryR (newBk 2 3) 0 2).1 = k2 at *
  have HK2 := Lib.hid hk2; clear hk2
  go_wp2_with fail
  refine (try_any _ 1 2 _ _ hA2 ok2).mono ?_
  rintro e w3 ⟨rfl, hA3, hG3⟩
  have e3 : (tryR k2 1 2).2 = (false, 0) := by rw [← HK2.out]; decide +kernel
  rw [e3]
  have ok3 := tryR_ok ok2 1 2
  have hB3 := below_grown hB2 hG3 (by omega) (Nat.le_refl _)
  have hs3 := hG3.size
  clear e3 hG3
  generalize hk3 : (tryR k2 1 2).1 = k3 at *
  have HK3 := Lib.hid hk3; clear hk3
  go_wp2_with fail
  refine (owner_any _ 2 _ _ hA3 ok3).mono ?_
  rintro e w3' ⟨rfl, rfl⟩
  have e4 : ownerR k3 2 = 0 := by rw [← HK3.out, ← HK2.out]; decide +kernel
  have e4' : lockE k3.n 2 = 0 := by rw [← HK3.out, ← HK2.out]; decide +kernel
  rw [e4, e4']
  clear e4 e4'
  go_wp2_with fail
  refine (free_any _ 1 2 _ _ hA3 ok3).mono ?_
  rintro e w4 ⟨rfl, hA4, hG4⟩
  have e5 : (freeR k3 1 2).2 = 12 := by rw [← HK3.out, ← HK2.out]; decide +kernel
  rw [e5]
  have hB4 := below_grown hB3 hG4 (by omega) (Nat.le_refl _)
  clear e5 hG4 hA4
  go_wp2_with fail
  go_ret
  exact ⟨rfl, hB4⟩

end Go.Proofs.Ytloifnnofldgmaa.Locks
