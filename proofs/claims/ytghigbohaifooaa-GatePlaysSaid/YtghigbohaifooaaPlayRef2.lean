/- Gate: the contracts of the reference's Start and Do. -/
import Derived.Test.YtghigbohaifooaaPlayRef
namespace Go.Proofs.Ytghigbohaifooaa.Gates
set_option linter.unusedVariables false
set_option linter.unusedSimpArgs false
open Go.RowKit Go.Proofs.Ytghigbohaifooaa.PGatePlays Go.Proofs.YtghigbohaifooaaW.PrintWords

set_option maxHeartbeats 1000000 in
theorem rstart_any (k : Gt) (f : k.Fit) (c : Int) (A : Option Addr) (cap B : Nat) (w : World) (h : Sg w B (.slice A (absG k).length cap) (absG k)) (hB : B ≤ w.heap.size) :
    Calls Try.prog 28 #[.slice A (absG k).length cap, .int .i64 c] w fun e w' => ∃ A' cap', e = .returned (.tuple #[.slice A' (absG (startR k c).1).length cap', .int .i64 (startR k c).2]) ∧ Sg w' B (.slice A' (absG (startR k c).1).length cap') (absG (startR k c).1) ∧ Below w.heap.size w w' := by
  by_cases hc : coreE k.cores c = 0
  · obtain ⟨hc0, hc1⟩ := core_in hc
    have hlen : c < ((absG k).length : Int) := by rw [abs_len]; omega
    obtain ⟨ad, e, g0, g1⟩ := at_T48 h.c.2.2 c hc0 hlen
    subst e
    rw [abs_at k c hc0 hc1] at g0 g1
    have hx := has_any k f c (some ad) cap B w h
    rw [decide_eq_true hc] at hx
    have HX := Lib.hid hx; clear hx
    by_cases hh : k.held.getD c.toNat false = true
    · have hst := start_held hc0 hc1 hh
      have e1 : startR k c = ((k.hold c.toNat false).ep c.toNat ((k.eps.getD c.toNat 0 + 1) % 65536), 0) := Prod.ext hst.2 hst.1
      rw [e1]
      dsimp only at g0 g1
      rw [hh] at g1
      have hg := f.ok.get c.toNat (by have := f.ok.c1; omega)
      have hset : (absG k).set c.toNat ⟨(k.eps.getD c.toNat 0 + 1) % 65536, false⟩ = absG ((k.hold c.toNat false).ep c.toNat ((k.eps.getD c.toNat 0 + 1) % 65536)) :=
        abs_set k ((k.hold c.toNat false).ep c.toNat ((k.eps.getD c.toNat 0 + 1) % 65536)) rfl c.toNat (by omega) _
          (fun m hm => ep_at (f.ok.hold c.toNat false) c.toNat m _ (by have := f.ok.c1; omega)) (fun m hm => hold_at f.ok c.toNat m false (by have := f.ok.c1; omega))
      have hw := with_eq k f c ((k.eps.getD c.toNat 0 + 1) % 65536) false hc0 hc1
      rw [hset] at hw
      have hadd := add_eq (k.eps.getD c.toNat 0) 1 hg.1 (by omega) hg.2 (by omega)
      generalize absG ((k.hold c.toNat false).ep c.toNat ((k.eps.getD c.toNat 0 + 1) % 65536)) = y at *
      generalize k.eps.getD c.toNat 0 = x at *
      generalize (x + 1) % 65536 = z at *
      have HW := Lib.hid hw; clear hw hset
      have HA := Lib.hid hadd; clear hadd
      clear hc hh e1 hst hg
      go_enter Try.func28, Try.ntmps28
      go_wp2_with fail
      refine HX.out.mono ?_
      rintro e w1 ⟨rfl, hB1⟩
      have k1 := (hB1.cell (World.block_lt_of_cell? w _ g1)).trans g1
      have k0 := (hB1.cell (World.block_lt_of_cell? w _ g0)).trans g0
      have HS := Lib.hid (h.below hB1)
      have HB := Lib.hid hB1; clear hB1
      go_wp2_with fail
      refine (switchyardref01_Add.calls x 1 z _ HA.out).mono ?_
      rintro e w2 ⟨rfl, hd⟩
      have HS2 := Lib.hid (HS.out.below hd.below)
      have HB2 := Lib.hid (HB.out.trans (hd.below.mono HB.out.size))
      clear hd
      go_wp2_with fail
      refine (switchyardref11_with.calls (some ad) cap (absG k) c z false y _ HS2.out.c.2.2 HS2.out.c.2.1 HW.out).mono ?_
      rintro e w3 ⟨v, rfl, hR, hB3⟩
      obtain ⟨A', cap', rfl, hcc, hC⟩ := Kd.R_reads hR
      have HR := Lib.hid hR; clear hR hC
      have HB3 := Lib.hid (HB2.out.trans (hB3.mono HB2.out.size))
      have hs := HB2.out.size
      clear hB3
      go_wp2_with fail
      go_ret2
      exact ⟨A', cap', rfl, Sg.lower HR.out (by omega), HB3.out⟩
    · have hh' : k.held.getD c.toNat false = false := by simpa using hh
      have e1 : startR k c = (k, 13) := by unfold startR; rw [if_pos hc, if_neg hh]
      rw [e1]
      dsimp only at g0 g1
      rw [hh'] at g1
      clear hc hh hh' e1
      go_enter Try.func28, Try.ntmps28
      go_wp2_with fail
      refine HX.out.mono ?_
      rintro e w1 ⟨rfl, hB1⟩
      have k1 := (hB1.cell (World.block_lt_of_cell? w _ g1)).trans g1
      have HS := Lib.hid (h.below hB1)
      have HB := Lib.hid hB1; clear hB1
      go_wp2_with fail
      go_ret2
      exact ⟨some ad, cap, rfl, HS.out, HB.out⟩
  · have e1 : startR k c = (k, 3) := by
      have := start_out (k := k) (c := c) (fun q => hc (core_yes q.1 q.2))
      exact Prod.ext this.2 this.1
    rw [e1]
    have hx := has_any k f c A cap B w h
    rw [decide_eq_false hc] at hx
    have HX := Lib.hid hx; clear hx hc e1
    go_enter Try.func28, Try.ntmps28
    go_wp2_with fail
    refine HX.out.mono ?_
    rintro e w1 ⟨rfl, hB1⟩
    have HB := Lib.hid hB1; clear hB1
    go_wp2_with fail
    go_ret2
    exact ⟨A, cap, rfl, h.below HB.out, HB.out⟩

set_option maxHeartbeats 1000000 in
theorem rdo_any {k k' : Gt} {kind c re : Int} (hd : doR k kind c = (k', re)) (f : k.Fit) (A : Option Addr) (cap B : Nat) (w : World) (h : Sg w B (.slice A (absG k).length cap) (absG k)) (hB : B ≤ w.heap.size) :
    Calls Try.prog 15 #[.slice A (absG k).length cap, .agg #[.int .i64 kind, .int .i64 c]] w fun e w' => ∃ A' cap', e = .returned (.tuple #[.slice A' (absG k').length cap', .int .i64 re]) ∧ Sg w' B (.slice A' (absG k').length cap') (absG k') ∧ Below w.heap.size w w' := by
  have hal := (Below.refl w.heap.size w).alloc (Nat.le_refl _) (.cells #[.int .i64 kind, .int .i64 c] 28)
  have HS := Lib.hid (h.below hal)
  have HAl := Lib.hid hal; clear hal
  have hsz : w.heap.size ≤ (w.alloc (.cells #[.int .i64 kind, .int .i64 c] 28)).heap.size := by simp
  unfold doR at hd
  by_cases h0 : kind = 0
  · subst h0
    rw [if_pos rfl] at hd
    have hc := rhold_any k f c A cap B _ HS.out (by omega)
    rw [hd] at hc
    have HC := Lib.hid hc; clear hc hd
    go_enter Try.func15, Try.ntmps15
    go_wp2_with fail
    refine HC.out.mono ?_
    rintro e w1 ⟨A', cap', rfl, hS, hB1⟩
    have HR := Lib.hid (And.intro hS (HAl.out.trans (hB1.mono hsz)))
    clear hS hB1
    go_wp2_with fail
    go_ret2
    exact ⟨A', cap', rfl, HR.out⟩
  · rw [if_neg h0] at hd
    have hb0 : (kind == 0) = false := by rw [beq_eq_false_iff_ne]; exact h0
    by_cases h1 : kind = 1
    · subst h1
      rw [if_pos rfl] at hd
      have hc := rstart_any k f c A cap B _ HS.out (by omega)
      rw [hd] at hc
      have HC := Lib.hid hc; clear hc hd h0 hb0
      go_enter Try.func15, Try.ntmps15
      go_wp2_with fail
      refine HC.out.mono ?_
      rintro e w1 ⟨A', cap', rfl, hS, hB1⟩
      have HR := Lib.hid (And.intro hS (HAl.out.trans (hB1.mono hsz)))
      clear hS hB1
      go_wp2_with fail
      go_ret2
      exact ⟨A', cap', rfl, HR.out⟩
    · rw [if_neg h1] at hd
      have hb1 : (kind == 1) = false := by rw [beq_eq_false_iff_ne]; exact h1
      injection hd with e1 e2
      subst e1 e2
      clear h0 h1
      go_enter Try.func15, Try.ntmps15
      go_wp2_with fail
      go_ret2
      exact ⟨A, cap, rfl, HS.out, HAl.out⟩

theorem do_any' {k k' : Gt} {kind c re : Int} (hd : doR k kind c = (k', re)) (f : k.Fit) (b : Nat) (w : World) (h : At w b k) :
    Calls Try.prog 8 #[.pointer (some ⟨b, 0, none⟩), .agg #[.int .i64 kind, .int .i64 c]] w fun e w' => e = .returned (.int .i64 re) ∧ At w' b k' ∧ w.grownBy w' (some b) := by
  have := do_any b kind c k w h f.ok
  rw [hd] at this
  exact this

end Go.Proofs.Ytghigbohaifooaa.Gates
