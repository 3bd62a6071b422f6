/- Gate: the contracts of Hold, Start and Link. -/
import Derived.Test.YtghigbohaifooaaWrap
import Derived.StillTailTactics
namespace Go.Proofs.Ytghigbohaifooaa.Gates
set_option linter.unusedVariables false
set_option linter.unusedSimpArgs false
open Go.RowKit
attribute [local go_sem ↓] Go.wp_at_zero Go.wp_at_succ

/-- What Hold tells: (the gate, the error). -/
def holdR (k : Gt) (c : Int) : Gt × Int :=
  if coreE k.cores c = 0 then (if k.held.getD c.toNat false = true then (k, 11) else (k.hold c.toNat true, 0)) else (k, coreE k.cores c)

set_option maxHeartbeats 400000 in
theorem hold_any (b : Nat) (c : Int) (k : Gt) (w : World) (h : At w b k) (ok : k.Ok) :
    Calls Try.prog 11 #[.pointer (some ⟨b, 0, none⟩), .int .i64 c] w fun e w' => e = .returned (.int .i64 (holdR k c).2) ∧ At w' b (holdR k c).1 ∧ w.grownBy w' (some b) := by
  have h0 := h.cores
  unfold holdR
  by_cases hc : coreE k.cores c = 0
  · rw [if_pos hc]
    obtain ⟨g0, g1⟩ := core_in hc
    obtain ⟨j, rfl⟩ := Int.eq_ofNat_of_zero_le g0
    have hc1 := ok.c1
    have hj : j < 8 := by omega
    have hi := h.up ok j hj
    have hf := h.free (9 + j)
    rw [Int.toNat_natCast]
    have hb : (coreE k.cores (j : Int) != 0) = false := by rw [hc]; rfl
    have HA := Lib.hid (h.hold ok j true)
    by_cases hx : k.held.getD j false = true
    · rw [if_pos hx]
      rw [hx] at hi
      have Hc := Lib.hid hc; clear hc hx
      go_enter Try.func11, Try.ntmps11
      go_wp2_with fail
      refine (wrong_any b (j : Int) k.cores _ h0).mono ?_
      rintro e w' ⟨rfl, rfl⟩
      go_wp2_with fail
      go_ret
      exact ⟨rfl, h, grown_self _ _⟩
    · rw [if_neg hx]
      have hx' : k.held.getD j false = false := by cases hq : k.held.getD j false; rfl; exact absurd hq hx
      rw [hx'] at hi
      have Hc := Lib.hid hc; clear hc hx hx'
      go_enter Try.func11, Try.ntmps11
      go_wp2_with fail
      refine (wrong_any b (j : Int) k.cores _ h0).mono ?_
      rintro e w' ⟨rfl, rfl⟩
      go_wp2_with fail
      go_ret
      exact ⟨rfl, HA.out, grown_set _ _ _⟩
  · rw [if_neg hc]
    have hb : (coreE k.cores c != 0) = true := by rw [bne_iff_ne]; exact hc
    clear hc
    go_enter Try.func11, Try.ntmps11
    go_wp2_with fail
    refine (wrong_any b c k.cores _ h0).mono ?_
    rintro e w' ⟨rfl, rfl⟩
    go_wp2_with fail
    go_ret
    exact ⟨rfl, h, grown_self _ _⟩

theorem hold_nil (c : Int) (w : World) :
    Calls Try.prog 11 #[.pointer none, .int .i64 c] w fun e w' => e = .returned (.int .i64 1) ∧ w = w' := by
  go_enter Try.func11, Try.ntmps11
  go_wp2_with fail
  refine (wrong_nil c _).mono ?_
  rintro e w' ⟨rfl, rfl⟩
  go_wp2_with fail
  go_ret
  exact ⟨rfl, rfl⟩

theorem start_nil (c : Int) (w : World) :
    Calls Try.prog 12 #[.pointer none, .int .i64 c] w fun e w' => e = .returned (.int .i64 1) ∧ w = w' := by
  go_enter Try.func12, Try.ntmps12
  go_wp2_with fail
  refine (wrong_nil c _).mono ?_
  rintro e w' ⟨rfl, rfl⟩
  go_wp2_with fail
  go_ret
  exact ⟨rfl, rfl⟩

/-- What Start tells: (the gate, the error). -/
def startR (k : Gt) (c : Int) : Gt × Int :=
  if coreE k.cores c = 0 then (if k.held.getD c.toNat false = true then ((k.hold c.toNat false).ep c.toNat ((k.eps.getD c.toNat 0 + 1) % 65536), 0) else (k, 13)) else (k, coreE k.cores c)

set_option maxHeartbeats 1000000 in
theorem start_any (b : Nat) (c : Int) (k : Gt) (w : World) (h : At w b k) (ok : k.Ok) :
    Calls Try.prog 12 #[.pointer (some ⟨b, 0, none⟩), .int .i64 c] w fun e w' => e = .returned (.int .i64 (startR k c).2) ∧ At w' b (startR k c).1 ∧ w.grownBy w' (some b) := by
  have h0 := h.cores
  unfold startR
  by_cases hc : coreE k.cores c = 0
  · rw [if_pos hc]
    obtain ⟨g0, g1⟩ := core_in hc
    obtain ⟨j, rfl⟩ := Int.eq_ofNat_of_zero_le g0
    have hc1 := ok.c1
    have hj : j < 8 := by omega
    have hi := h.up ok j hj
    have hf := h.free (9 + j)
    rw [Int.toNat_natCast]
    have hb : (coreE k.cores (j : Int) != 0) = false := by rw [hc]; rfl
    have hA1 := h.hold ok j false
    have ok1 := ok.hold j false
    by_cases hx : k.held.getD j false = true
    · rw [if_pos hx]
      rw [hx] at hi
      have he := hA1.ep ok1 j hj
      have hr := ok.get j hj
      have hf2 := hA1.free (1 + j)
      have HA := Lib.hid (hA1.setEp ok1 j hj ((k.eps.getD j 0 + 1) % 65536))
      have HG := Lib.hid (grown_set w ⟨b, 9 + j, none⟩ (.bool false))
      rw [show (k.hold j false).eps = k.eps from rfl] at he
      obtain ⟨hr0, hr1⟩ := hr
      generalize k.eps.getD j 0 = x at *
      have Hc := Lib.hid hc; clear hc hx hA1 ok1
      go_enter Try.func12, Try.ntmps12
      go_wp2_with fail
      refine (wrong_any b (j : Int) k.cores _ h0).mono ?_
      rintro e w' ⟨rfl, rfl⟩
      go_wp2_with fail
      generalize w.setCell ⟨b, 9 + j, none⟩ (.bool false) = w1 at *
      have he2 : w1.drew.cell? ⟨b, 1 + j, none⟩ = some (.int .i64 x) := he
      have hj0 : (0 : Int) ≤ (j : Int) := by omega
      have hj8 : (j : Int) < 8 := by omega
      refine wp_region_still_tail 12 (by kernel_rfl) (by kernel_rfl) ?_
      simp only [List.take_succ_cons, List.take_zero, List.drop_succ_cons, List.drop_zero]
      change wpStill _ _ w1.drew _ _ _
      repeat still_step
      still_call ((add_any x 1 _ (by omega) (by omega) (by omega) (by omega)).mono fun _ _ h => ⟨h.1, h.2.symm⟩)
      repeat still_step
      refine wpStill_nil ?_
      change wpList _ _ _ _ _ w1.drew
      have hf3 : w1.drew.frozen? ⟨b, 1 + j, none⟩ = false := hf2
      go_wp2_with fail
      go_ret
      exact ⟨rfl, HA.out, grown_trans HG.out (grown_drew (grown_set _ _ _))⟩
    · rw [if_neg hx]
      have hx' : k.held.getD j false = false := by cases hq : k.held.getD j false; rfl; exact absurd hq hx
      rw [hx'] at hi
      have Hc := Lib.hid hc; clear hc hx hx' hA1
      go_enter Try.func12, Try.ntmps12
      go_wp2_with fail
      refine (wrong_any b (j : Int) k.cores _ h0).mono ?_
      rintro e w' ⟨rfl, rfl⟩
      go_wp2_with fail
      go_ret
      exact ⟨rfl, h, grown_self _ _⟩
  · rw [if_neg hc]
    have hb : (coreE k.cores c != 0) = true := by rw [bne_iff_ne]; exact hc
    clear hc
    go_enter Try.func12, Try.ntmps12
    go_wp2_with fail
    refine (wrong_any b c k.cores _ h0).mono ?_
    rintro e w' ⟨rfl, rfl⟩
    go_wp2_with fail
    go_ret
    exact ⟨rfl, h, grown_self _ _⟩

/-- What Link tells. -/
def linkE (k : Gt) (a b : Int) : Int := if coreE k.cores a = 0 then (if coreE k.cores b = 0 then (if a = b then 2 else 0) else coreE k.cores b) else coreE k.cores a
def linkR (k : Gt) (a b : Int) : Int := if linkE k a b = 0 then (epR k a + epR k b) % 65536 else 0

theorem epR_rng {k : Gt} (ok : k.Ok) (c : Int) : 0 ≤ epR k c ∧ epR k c ≤ 65535 := by
  unfold epR
  by_cases hc : coreE k.cores c = 0
  · rw [if_pos hc]
    obtain ⟨g0, g1⟩ := core_in hc
    have := ok.c1
    exact ok.get _ (by omega)
  · rw [if_neg hc]; omega

set_option maxHeartbeats 1000000 in
theorem link_any (b : Nat) (c d : Int) (k : Gt) (w : World) (h : At w b k) (ok : k.Ok) :
    Calls Try.prog 9 #[.pointer (some ⟨b, 0, none⟩), .int .i64 c, .int .i64 d] w fun e w' => e = .returned (.tuple #[.int .i64 (linkR k c d), .int .i64 (linkE k c d)]) ∧ w = w' := by
  have C1 := Lib.hid (epoch_any b c k w h ok)
  have C2 := Lib.hid (epoch_any b d k w h ok)
  have hr1 := epR_rng ok c
  have hr2 := epR_rng ok d
  unfold linkR linkE
  by_cases hc : coreE k.cores c = 0
  · rw [if_pos hc]
    have hb : (coreE k.cores c != 0) = false := by rw [hc]; rfl
    by_cases hd : coreE k.cores d = 0
    · rw [if_pos hd]
      have hb2 : (coreE k.cores d != 0) = false := by rw [hd]; rfl
      by_cases hcd : c = d
      · rw [if_pos hcd, if_neg (by omega)]
        subst hcd
        have Hc := Lib.hid hc; clear hc hd hb2
        go_enter Try.func9, Try.ntmps9
        go_wp2_with fail
        refine C1.out.mono ?_
        rintro e w' ⟨rfl, rfl⟩
        go_wp2_with fail
        refine C2.out.mono ?_
        rintro e w' ⟨rfl, rfl⟩
        go_wp2_with fail
        go_ret2
        exact ⟨rfl, rfl⟩
      · rw [if_neg hcd, if_pos rfl]
        have hb3 : (c == d) = false := by rw [beq_eq_false_iff_ne]; exact hcd
        have Hc := Lib.hid hc
        clear hc hd hcd
        go_enter Try.func9, Try.ntmps9
        go_wp2_with fail
        refine C1.out.mono ?_
        rintro e w' ⟨rfl, rfl⟩
        go_wp2_with fail
        refine C2.out.mono ?_
        rintro e w' ⟨rfl, rfl⟩
        go_wp2_with fail
        refine (add_any _ _ _ hr1.1 (by omega) hr2.1 (by omega)).mono ?_
        rintro e w' ⟨rfl, rfl⟩
        go_wp2_with fail
        go_ret2
        exact ⟨rfl, rfl⟩
    · rw [if_neg hd, if_neg hd]
      have hb2 : (coreE k.cores d != 0) = true := by rw [bne_iff_ne]; exact hd
      have Hc := Lib.hid hc
      clear hc hd
      go_enter Try.func9, Try.ntmps9
      go_wp2_with fail
      refine C1.out.mono ?_
      rintro e w' ⟨rfl, rfl⟩
      go_wp2_with fail
      refine C2.out.mono ?_
      rintro e w' ⟨rfl, rfl⟩
      go_wp2_with fail
      go_ret2
      exact ⟨rfl, rfl⟩
  · rw [if_neg hc, if_neg hc]
    have hb : (coreE k.cores c != 0) = true := by rw [bne_iff_ne]; exact hc
    clear hc
    go_enter Try.func9, Try.ntmps9
    go_wp2_with fail
    refine C1.out.mono ?_
    rintro e w' ⟨rfl, rfl⟩
    go_wp2_with fail
    go_ret2
    exact ⟨rfl, rfl⟩

theorem link_nil (c d : Int) (w : World) :
    Calls Try.prog 9 #[.pointer none, .int .i64 c, .int .i64 d] w fun e w' => e = .returned (.tuple #[.int .i64 0, .int .i64 1]) ∧ w = w' := by
  go_enter Try.func9, Try.ntmps9
  go_wp2_with fail
  refine (epoch_nil c _).mono ?_
  rintro e w' ⟨rfl, rfl⟩
  go_wp2_with fail
  go_ret2
  exact ⟨rfl, rfl⟩

end Go.Proofs.Ytghigbohaifooaa.Gates
