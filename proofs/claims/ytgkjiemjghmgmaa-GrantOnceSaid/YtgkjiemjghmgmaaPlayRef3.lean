/- Grant: the contract of the reference's Do. -/
import Derived.Test.YtgkjiemjghmgmaaPlayRef2
namespace Go.Proofs.Ytgkjiemjghmgmaa.Grants
set_option linter.unusedVariables false
set_option linter.unusedSimpArgs false
open Go.RowKit Go.Proofs.Ytgkjiemjghmgmaa.PGrantPlays Go.Proofs.YtgkjiemjghmgmaaW.PrintWords

theorem give_out {k : Tb} {i : Int} (h : (giveR k i).2.2 = false) : giveR k i = (k, 0, false) := by
  unfold giveR at h ⊢
  split at h
  · simp at h
  · rw [if_neg (by assumption)]
theorem slot_out {k : Tb} {x : Int} (h : (slotR k x).2 = false) : slotR k x = (0, false) := by
  unfold slotR at h ⊢
  split at h
  · simp at h
  · rw [if_neg (by assumption)]

set_option maxHeartbeats 1000000 in
theorem rdo_any {k k' : Tb} {kind x rx re : Int} (hd : rdoR k kind x = (k', rx, re)) (ok : k.Ok) (A : Option Addr) (cap B : Nat) (w : World) (h : Sg w B (.slice A (absT k).length cap) (absT k)) (hB : B ≤ w.heap.size) :
    Calls Try.prog 16 #[.slice A (absT k).length cap, .agg #[.int .i64 kind, .int .i64 x]] w fun e w' => ∃ A' cap', e = .returned (.tuple #[.slice A' (absT k').length cap', .int .i64 rx, .int .i64 re]) ∧ Sg w' B (.slice A' (absT k').length cap') (absT k') ∧ Below w.heap.size w w' := by
  have hal := (Below.refl w.heap.size w).alloc (Nat.le_refl _) (.cells #[.int .i64 kind, .int .i64 x] 28)
  have hsz : w.heap.size ≤ (w.alloc (.cells #[.int .i64 kind, .int .i64 x] 28)).heap.size := by simp
  have HS := Lib.hid (h.below hal)
  have HAl := Lib.hid hal; clear hal
  unfold rdoR at hd
  by_cases h0 : kind = 0
  · subst h0
    rw [if_neg (by decide)] at hd
    have e0 : doR k 0 x = ((giveR k x).1, (giveR k x).2.1, (if (giveR k x).2.2 = true then 1 else 0)) := rfl
    rw [e0] at hd
    have hc := rgive_any k ok x A cap B _ HS.out (by omega)
    cases hq : (giveR k x).2.2
    · rw [give_out hq] at hd hc
      injection hd with e1 e2
      injection e2 with e2 e3
      dsimp only at e1 e2 e3 hc
      subst e1 e2 e3
      have HC := Lib.hid hc; clear hc hq e0
      go_enter Try.func16, Try.ntmps16
      go_wp2_with fail
      refine HC.out.mono ?_
      rintro e w1 ⟨A', cap', rfl, hS, hB1⟩
      have HR := Lib.hid (And.intro hS (HAl.out.trans (hB1.mono hsz)))
      clear hS hB1
      go_wp2_with fail
      go_ret3
      exact ⟨A', cap', rfl, HR.out⟩
    · rw [hq] at hd hc
      injection hd with e1 e2
      injection e2 with e2 e3
      rw [if_pos rfl] at e3
      rw [e1, e2] at hc
      subst e3
      clear e1 e2
      have HC := Lib.hid hc; clear hc hq e0
      go_enter Try.func16, Try.ntmps16
      go_wp2_with fail
      refine HC.out.mono ?_
      rintro e w1 ⟨A', cap', rfl, hS, hB1⟩
      have HR := Lib.hid (And.intro hS (HAl.out.trans (hB1.mono hsz)))
      clear hS hB1
      go_wp2_with fail
      go_ret3
      exact ⟨A', cap', rfl, HR.out⟩
  · by_cases h1 : kind = 1
    · subst h1
      rw [if_neg (by decide)] at hd
      have e0 : doR k 1 x = ((dropR k x).1, 0, (dropR k x).2) := rfl
      rw [e0] at hd
      have hc := rdrop_any k ok x A cap B _ HS.out (by omega)
      injection hd with e1 e2
      injection e2 with e2 e3
      rw [e1, e3] at hc
      subst e2
      have HC := Lib.hid hc; clear hc e0 e1 e3 h0
      go_enter Try.func16, Try.ntmps16
      go_wp2_with fail
      refine HC.out.mono ?_
      rintro e w1 ⟨A', cap', rfl, hS, hB1⟩
      have HR := Lib.hid (And.intro hS (HAl.out.trans (hB1.mono hsz)))
      clear hS hB1
      go_wp2_with fail
      go_ret3
      exact ⟨A', cap', rfl, HR.out⟩
    · by_cases h3 : kind = 3
      · subst h3
        rw [if_pos rfl] at hd
        have e0 : doR k 1 (handleR k x) = ((dropR k (handleR k x)).1, 0, (dropR k (handleR k x)).2) := rfl
        rw [e0] at hd
        injection hd with e1 e2
        injection e2 with e2 e3
        have hh := rhandle_any k ok x A cap B _ HS.out
        have HD := Lib.hid (fun u (hu : Sg u B (.slice A (absT k).length cap) (absT k)) (hb : B ≤ u.heap.size) => by
          have := rdrop_any k ok (handleR k x) A cap B u hu hb
          rw [e1, e3] at this
          exact this)
        subst e2
        have HH := Lib.hid hh; clear hh e0 e1 e3 h0 h1
        generalize handleR k x = y at *
        go_enter Try.func16, Try.ntmps16
        go_wp2_with fail
        refine HH.out.mono ?_
        rintro e w1 ⟨rfl, hB1⟩
        have hbx := (hB1.block w.heap.size (by simp)).trans (heap_alloc_new w _)
        have c0 := (blk_cell hbx 0).trans rfl
        have c1 := (blk_cell hbx 1).trans rfl
        have f0 := blk_frozen hbx 0
        have f1 := blk_frozen hbx 1
        have hT := HAl.out.trans (hB1.mono hsz)
        have hS1 := (HS.out.below hB1).set ⟨w.heap.size, 1, none⟩ (.int .i64 y) ⟨_, _, hbx, by decide⟩
        have HT := Lib.hid (hT.setCell (p := ⟨w.heap.size, 1, none⟩) (Nat.le_refl _) (.int .i64 y))
        have hs1 := HT.out.size
        clear hB1 hbx hT
        have HS1 := Lib.hid hS1; clear hS1
        go_wp2_with fail
        refine (HD.out _ HS1.out (by omega)).mono ?_
        rintro e w2 ⟨A', cap', rfl, hS, hB2⟩
        have HR := Lib.hid (And.intro hS (HT.out.trans (hB2.mono hs1)))
        clear hS hB2
        go_wp2_with fail
        go_ret3
        exact ⟨A', cap', rfl, HR.out⟩
      · rw [if_neg h3] at hd
        have hb0 : (kind == 0) = false := by rw [beq_eq_false_iff_ne]; exact h0
        have hb1 : (kind == 1) = false := by rw [beq_eq_false_iff_ne]; exact h1
        have hb3 : (kind == 3) = false := by rw [beq_eq_false_iff_ne]; exact h3
        by_cases h2 : kind = 2
        · subst h2
          have e0 : doR k 2 x = (k.none_, ((heldR k).length : Int), 0) := rfl
          rw [e0] at hd
          injection hd with e1 e2
          injection e2 with e2 e3
          have hc := rclear_any k ok A cap B _ HS.out (by omega)
          rw [e1] at hc
          subst e2 e3
          have HC := Lib.hid hc; clear hc e0 e1 h0 h1 h3 hb0 hb1 hb3
          go_enter Try.func16, Try.ntmps16
          go_wp2_with fail
          refine HC.out.mono ?_
          rintro e w1 ⟨A', cap', rfl, hS, hB1⟩
          have hS0 := HS.out.below hB1
          have HR := Lib.hid (And.intro hS (HAl.out.trans (hB1.mono hsz)))
          clear hS hB1
          have HS0 := Lib.hid hS0; clear hS0
          go_wp2_with fail
          refine (rheld_any k ok A cap B _ HS0.out).mono ?_
          rintro e w2 ⟨A2, cap2, rfl, hc2, hC2, hB2⟩
          have HR2 := Lib.hid (And.intro (HR.out.1.below hB2) (HR.out.2.trans (hB2.mono HR.out.2.size)))
          clear hB2 hC2 hc2
          go_wp2_with fail
          go_ret3
          exact ⟨A', cap', rfl, HR2.out⟩
        · have hb2 : (kind == 2) = false := by rw [beq_eq_false_iff_ne]; exact h2
          have e0 : doR k kind x = (k, (slotR k x).1, (if (slotR k x).2 = true then 1 else 0)) := by
            unfold doR
            rw [if_neg h0, if_neg (by omega), if_neg h2]
          rw [e0] at hd
          injection hd with e1 e2
          injection e2 with e2 e3
          subst e1
          have hc := rslot_any k ok x A cap B _ HS.out
          clear h0 h1 h2 h3
          cases hq : (slotR k x).2
          · rw [slot_out hq] at hc e2 e3
            dsimp only at hc e2 e3
            subst e2
            rw [if_neg (by decide)] at e3
            subst e3
            have HC := Lib.hid hc; clear hc e0 hq
            go_enter Try.func16, Try.ntmps16
            go_wp2_with fail
            refine HC.out.mono ?_
            rintro e w1 ⟨rfl, hB1⟩
            have HR := Lib.hid (And.intro (HS.out.below hB1) (HAl.out.trans (hB1.mono hsz)))
            clear hB1
            go_wp2_with fail
            go_ret3
            exact ⟨A, cap, rfl, HR.out⟩
          · rw [hq] at hc e3
            rw [e2] at hc
            rw [if_pos rfl] at e3
            subst e3
            have HC := Lib.hid hc; clear hc e0 hq e2
            go_enter Try.func16, Try.ntmps16
            go_wp2_with fail
            refine HC.out.mono ?_
            rintro e w1 ⟨rfl, hB1⟩
            have HR := Lib.hid (And.intro (HS.out.below hB1) (HAl.out.trans (hB1.mono hsz)))
            clear hB1
            go_wp2_with fail
            go_ret3
            exact ⟨A, cap, rfl, HR.out⟩

end Go.Proofs.Ytgkjiemjghmgmaa.Grants
