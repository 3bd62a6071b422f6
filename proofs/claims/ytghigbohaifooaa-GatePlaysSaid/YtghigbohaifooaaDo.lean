/- Gate: the contracts of the law's own 'do' and 'alive'. -/
import Derived.Test.YtghigbohaifooaaSame
namespace Go.Proofs.Ytghigbohaifooaa.Gates
set_option linter.unusedVariables false
set_option linter.unusedSimpArgs false
open Go.RowKit

/-- What a call tells: (the gate, the error). -/
def doR (k : Gt) (kind c : Int) : Gt × Int := if kind = 0 then holdR k c else if kind = 1 then startR k c else (k, 0)

theorem holdR_ok {k : Gt} (ok : k.Ok) (c : Int) : (holdR k c).1.Ok := by
  unfold holdR
  split
  · split
    · exact ok
    · exact ok.hold _ _
  · exact ok
theorem startR_ok {k : Gt} (ok : k.Ok) (c : Int) : (startR k c).1.Ok := by
  unfold startR
  split
  · split
    · exact (ok.hold _ _).ep _ _ (by omega) (by omega)
    · exact ok
  · exact ok
theorem doR_ok {k : Gt} (ok : k.Ok) (kind c : Int) : (doR k kind c).1.Ok := by
  unfold doR
  split
  · exact holdR_ok ok c
  · split
    · exact startR_ok ok c
    · exact ok

set_option maxHeartbeats 1000000 in
theorem do_any (b : Nat) (kind c : Int) (k : Gt) (w : World) (h : At w b k) (ok : k.Ok) :
    Calls Try.prog 8 #[.pointer (some ⟨b, 0, none⟩), .agg #[.int .i64 kind, .int .i64 c]] w fun e w' =>
      e = .returned (.int .i64 (doR k kind c).2) ∧ At w' b (doR k kind c).1 ∧ w.grownBy w' (some b) := by
  unfold doR
  have hg : ∀ o, w.grownBy (w.alloc o) (some b) := fun o => World.grownBy_alloc w o _
  by_cases h0 : kind = 0
  · rw [if_pos h0]
    subst h0
    go_enter Try.func8, Try.ntmps8
    go_wp2_with fail
    refine (hold_any b c k _ (h.alloc _) ok).mono ?_
    rintro e w1 ⟨rfl, hA, hG⟩
    have HH := Lib.hid (And.intro hA (grown_trans (hg _) hG))
    clear hA hG
    go_wp2_with fail
    go_ret
    exact ⟨rfl, HH.out⟩
  · rw [if_neg h0]
    have hb0 : (kind == 0) = false := by rw [beq_eq_false_iff_ne]; exact h0
    by_cases h1 : kind = 1
    · rw [if_pos h1]
      subst h1
      clear h0 hb0
      go_enter Try.func8, Try.ntmps8
      go_wp2_with fail
      refine (start_any b c k _ (h.alloc _) ok).mono ?_
      rintro e w1 ⟨rfl, hA, hG⟩
      have HH := Lib.hid (And.intro hA (grown_trans (hg _) hG))
      clear hA hG
      go_wp2_with fail
      go_ret
      exact ⟨rfl, HH.out⟩
    · rw [if_neg h1]
      have hb1 : (kind == 1) = false := by rw [beq_eq_false_iff_ne]; exact h1
      clear h0 h1
      have HH := Lib.hid (hg (.cells #[.int .i64 kind, .int .i64 c] 28))
      go_enter Try.func8, Try.ntmps8
      go_wp2_with fail
      go_ret
      exact ⟨rfl, h.alloc _, HH.out⟩

set_option maxHeartbeats 1000000 in
theorem alive_any (w : World) : Calls Try.prog 7 #[] w fun e w' => e = .returned (.bool true) ∧ Below w.heap.size w w' := by
  have hn : isNew 3 := by unfold isNew; omega
  have ok0 := newGt_ok hn
  go_enter Try.func7, Try.ntmps7
  go_wp2_with fail
  refine (new_yes 3 _ hn).mono ?_
  rintro e w1 ⟨rfl, hA1, hB1, hs1⟩
  go_wp2_with fail
  refine (hold_any _ 1 _ _ hA1 ok0).mono ?_
  rintro e w2 ⟨rfl, hA2, hG2⟩
  have e2 : (holdR (newGt 3) 1).2 = 0 := by decide +kernel
  rw [e2]
  have ok2 := holdR_ok ok0 1
  have hB2 := below_grown hB1 hG2 (by omega) (Nat.le_refl _)
  have hs2 := hG2.size
  clear e2 hG2
  generalize hk2 : (holdR (newGt 3) 1).1 = k2 at *
  have HK2 := Lib.hid hk2; clear hk2
  go_wp2_with fail
  refine (start_any _ 1 _ _ hA2 ok2).mono ?_
  rintro e w3 ⟨rfl, hA3, hG3⟩
  have e3 : (startR k2 1).2 = 0 := by rw [← HK2.out]; decide +kernel
  rw [e3]
  have ok3 := startR_ok ok2 1
  have hB3 := below_grown hB2 hG3 (by omega) (Nat.le_refl _)
  clear e3 hG3
  generalize hk3 : (startR k2 1).1 = k3 at *
  have HK3 := Lib.hid hk3; clear hk3
  go_wp2_with fail
  refine (epoch_any _ 1 _ _ hA3 ok3).mono ?_
  rintro e w4 ⟨rfl, rfl⟩
  have e4 : epR k3 1 = 1 := by rw [← HK3.out, ← HK2.out]; decide +kernel
  have e4' : coreE k3.cores 1 = 0 := by rw [← HK3.out, ← HK2.out]; decide +kernel
  rw [e4, e4']
  clear e4 e4'
  go_wp2_with fail
  refine (link_any _ 0 1 _ _ hA3 ok3).mono ?_
  rintro e w4 ⟨rfl, rfl⟩
  have e4 : linkR k3 0 1 = 1 := by rw [← HK3.out, ← HK2.out]; decide +kernel
  have e4' : linkE k3 0 1 = 0 := by rw [← HK3.out, ← HK2.out]; decide +kernel
  rw [e4, e4']
  clear e4 e4'
  go_wp2_with fail
  refine (link_any _ 0 2 _ _ hA3 ok3).mono ?_
  rintro e w4 ⟨rfl, rfl⟩
  have e4 : linkR k3 0 2 = 0 := by rw [← HK3.out, ← HK2.out]; decide +kernel
  have e4' : linkE k3 0 2 = 0 := by rw [← HK3.out, ← HK2.out]; decide +kernel
  rw [e4, e4']
  clear e4 e4'
  go_wp2_with fail
  go_ret
  exact ⟨rfl, hB3⟩

end Go.Proofs.Ytghigbohaifooaa.Gates
