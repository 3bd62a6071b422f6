/- GateCounts: the walk of the law: whatever the numbers of cores, the calls and the three cores, it comes to true, and what was there in memory is as it was. -/
import Derived.Test.YtghigbohaifooaaCountsLaw
import Derived.Test.YtghigbohaifooaaOps
namespace Go.Proofs.Ytghigbohaifooaa.Gates
set_option linter.unusedVariables false
set_option linter.unusedSimpArgs false
open Go.RowKit

theorem neq_ptr (b : Nat) (w : World) : (binOp .eql 24 (.pointer (some ⟨b, 0, none⟩)) (.pointer none)).run Try.prog w = .ok (.bool false) w := by kernel_rfl
theorem eq_nil (w : World) : (binOp .eql 24 (.pointer none) (.pointer none)).run Try.prog w = .ok (.bool true) w := by kernel_rfl

set_option maxHeartbeats 4000000 in
set_option maxRecDepth 100000 in
theorem counts_walk (c : Int) (A : Option Addr) (len cap : Nat) (ops : List (List Int)) (t0 t1 t2 : Int) (w : World) (ho : Ops.OpsAt w w.heap.size 2 (.slice A len cap) ops) :
    Calls Try.prog 3 #[.int .i64 c, .slice A len cap, .agg #[.int .i64 t0, .int .i64 t1, .int .i64 t2]] w fun e w' => e = .returned (.bool true) ∧ Below w.heap.size w w' := by
  obtain ⟨A', len', cap', hv, hol, hlm, hall, hcells⟩ := ho
  injection hv with e1 e2 e3
  subst e1 e2 e3
  unfold maxLen at hlm
  have HALL := Lib.hid hall; clear hall
  have HOL := Lib.hid hol; clear hol
  have HC := Lib.hid hcells; clear hcells
  have hB0 : Below w.heap.size w (w.alloc (.cells #[.int .i64 t0, .int .i64 t1, .int .i64 t2] 23)) := (Below.refl _ _).alloc (Nat.le_refl _) _
  have hz0 : (w.alloc (.cells #[.int .i64 t0, .int .i64 t1, .int .i64 t2] 23)).heap.size = w.heap.size + 1 := by simp
  have HB0 := Lib.hid hB0; clear hB0
  have HZ0 := Lib.hid hz0; clear hz0
  have b0 : (w.alloc (.cells #[.int .i64 t0, .int .i64 t1, .int .i64 t2] 23)).cell? ⟨w.heap.size, 0, none⟩ = some (.int .i64 t0) := by go_simp
  have b1 : (w.alloc (.cells #[.int .i64 t0, .int .i64 t1, .int .i64 t2] 23)).cell? ⟨w.heap.size, 1, none⟩ = some (.int .i64 t1) := by go_simp
  have b2 : (w.alloc (.cells #[.int .i64 t0, .int .i64 t1, .int .i64 t2] 23)).cell? ⟨w.heap.size, 2, none⟩ = some (.int .i64 t2) := by go_simp
  by_cases hn : isNew c
  · have ok0 := newGt_ok hn
    have heq := neq_ptr
    obtain ⟨q1, q2⟩ : 1 ≤ c ∧ c ≤ 8 := hn
    have hn : isNew c := ⟨q1, q2⟩
    by_cases h1 : 60 < len
    · go_enter Try.func3, Try.ntmps3
      go_wp2_with fail
      refine (new_yes c _ hn).mono ?_
      rintro e w1 ⟨rfl, hA1, hB1, hs1⟩
      rw [HZ0.out] at hA1 hB1 hs1 ⊢
      generalize hw0 : w.alloc (.cells #[.int .i64 t0, .int .i64 t1, .int .i64 t2] 23) = w0 at *
      have HW0 := Lib.hid hw0; clear hw0
      go_wp2_with fail
      refine (alive_any _).mono ?_
      rintro e9 w9 ⟨rfl, hBa⟩
      have hBt : Below w.heap.size w w9 := HB0.out.trans ((hB1.mono (by omega)).trans (hBa.mono (by omega)))
      clear hBa
      go_wp2_with fail
      go_ret
      exact ⟨rfl, hBt⟩
    · go_enter Try.func3, Try.ntmps3
      go_wp2_with fail
      refine (new_yes c _ hn).mono ?_
      rintro e w1 ⟨rfl, hA1, hB1, hs1⟩
      rw [HZ0.out] at hA1 hB1 hs1 ⊢
      generalize hw0 : w.alloc (.cells #[.int .i64 t0, .int .i64 t1, .int .i64 t2] 23) = w0 at *
      have HW0 := Lib.hid hw0; clear hw0
      go_wp2_with fail
      go_loopw [33] (fun j wr => ∃ (m : Nat) (k : Gt), m ≤ len ∧ j = .int .i64 m ∧ k.cores = c ∧ k.Ok ∧ At wr (w.heap.size + 1) k ∧ Below (w.heap.size + 1) w0 wr ∧ w.heap.size + 1 < wr.heap.size)
        (fun j _ => len - (intOf j).toNat)
      case atStart => exact ⟨0, newGt c, by omega, rfl, rfl, ok0, hA1, hB1, hs1⟩
      case round =>
        obtain ⟨m, k, hm, rfl, hkc, ok, hA, hB, hs⟩ := hrel
        clear hA1 hB1 hs1
        by_cases hlt : m < len
        · obtain ⟨sb, off, rfl, hsb, hcell⟩ := HC.out (by omega)
          have g0 := hcell m 0 hlt (by omega)
          have g1 := hcell m 1 hlt (by omega)
          clear hcell
          generalize hk0 : (ops.getD m []).getD 0 0 = kind at *
          generalize hk1 : (ops.getD m []).getD 1 0 = core at *
          clear hk0 hk1
          have hBw := HB0.out.trans (hB.mono (by omega))
          have f0 : wr.cell? ⟨sb, off + m * 2, none⟩ = some (.int .i64 kind) := (hBw.cell (p := ⟨sb, off + m * 2, none⟩) hsb).trans g0
          have f1 : wr.cell? ⟨sb, off + m * 2 + 1, none⟩ = some (.int .i64 core) := (hBw.cell (p := ⟨sb, off + m * 2 + 1, none⟩) hsb).trans g1
          clear g0 g1
          have hdo := doR_ok ok kind core
          have hdc := doR_cores k kind core
          rw [hkc] at hdc
          have HDC := Lib.hid hdc; clear hdc
          have HKC := Lib.hid hkc; clear hkc
          go_wp2_with fail
          refine (do_any _ _ _ k _ (hA.alloc _) ok).mono ?_
          rintro e2 w2 ⟨rfl, hA2, hG2⟩
          have hz2 : wr.heap.size < w2.heap.size := by have := hG2.size; simp at this; omega
          have hB2 : Below (w.heap.size + 1) w0 w2 := below_grown (hB.alloc (by omega) _) hG2 (by simp; omega) (Nat.le_refl _)
          have HB2 := Lib.hid hB2; clear hB2 hG2
          go_wp2_with fail
          go_roundw
          case rel => exact ⟨m + 1, _, by omega, by go_num, HDC.out, hdo, hA2, HB2.out, by omega⟩
          case measure => simp [intOf]; omega
        · have hml : m = len := by omega
          subst hml
          have d0 : wr.cell? ⟨w.heap.size, 0, none⟩ = some (.int .i64 t0) := (hB.cell (p := ⟨w.heap.size, 0, none⟩) (by simp)).trans b0
          have d1 : wr.cell? ⟨w.heap.size, 1, none⟩ = some (.int .i64 t1) := (hB.cell (p := ⟨w.heap.size, 1, none⟩) (by simp)).trans b1
          have d2 : wr.cell? ⟨w.heap.size, 2, none⟩ = some (.int .i64 t2) := (hB.cell (p := ⟨w.heap.size, 2, none⟩) (by simp)).trans b2
          have HBw := Lib.hid (HB0.out.trans (hB.mono (by omega)))
          have HB := Lib.hid hB; clear hB
          have HKC := Lib.hid hkc; clear hkc
          by_cases hE : linkE k t0 t1 = 0
          · have hE' : (linkE k t0 t1 != 0) = false := by rw [hE]; rfl
            have LI := Lib.hid (link_in hE)
            have hr1 := linkR_rng (k := k) t0 t1
            by_cases hc2 : 0 ≤ t2 ∧ t2 < k.cores
            · by_cases hq0 : t2 = t0
              · have hq0s := hq0.symm
                subst hq0s
                cases hu : upR k t0
                · have ok1 := ok
                  have hheld := held_of_down hc2.1 hc2.2 hu
                  have hlk : linkE k t0 t1 = 0 := hE
                  obtain ⟨s1, s2⟩ := start_held (k := k) hc2.1 hc2.2 hheld
                  obtain ⟨s3, s4⟩ := link_start (k := k) ok1 hc2.1 hc2.2 hheld t0 t1 hlk
                  have ok2 := startR_ok ok1 t0
                  rw [if_pos (.inl rfl)] at s4
                  have s5 := linkE_comm _ _ _ s3
                  have s6 := linkR_comm _ _ _ s3
                  rw [s4] at s6
                  have S1 := Lib.hid s1; clear s1
                  have S3 := Lib.hid s3; clear s3
                  have S4 := Lib.hid s4; clear s4
                  have S5 := Lib.hid s5; clear s5
                  have S6 := Lib.hid s6; clear s6
                  clear s2
                  generalize hl : linkR k t0 t1 = l at *
                  have HLl := Lib.hid hl; clear hl
                  have HE := Lib.hid hE; clear hE
                  have HU := Lib.hid hu; clear hu
                  have hge : 0 ≤ t0 := hc2.1
                  have hlc : t0 < c := by have := hc2.2; have := HKC.out; omega
                  clear hc2
                  go_wp2_with fail
                  refine (link_any _ t0 t1 k _ hA ok).mono ?_
                  rintro e3 w3 ⟨rfl, rfl⟩
                  rw [HE.out, HLl.out]
                  go_wp2_with fail
                  refine (up_any _ t0 k _ hA ok).mono ?_
                  rintro e4 w4 ⟨rfl, rfl⟩
                  rw [HU.out]
                  go_wp2_with fail
                  refine (link_any _ t0 t1 k _ hA ok1).mono ?_
                  rintro e6 w6 ⟨rfl, rfl⟩
                  rw [HE.out, HLl.out]
                  go_wp2_with fail
                  refine (start_any _ t0 k _ hA ok1).mono ?_
                  rintro e7 w7 ⟨rfl, hA7, hGw7⟩
                  rw [S1.out]
                  have w70 : w7.cell? ⟨w.heap.size, 0, none⟩ = some (.int .i64 t0) := hGw7.cell (a := ⟨w.heap.size, 0, none⟩) d0 (by simp)
                  have w71 : w7.cell? ⟨w.heap.size, 1, none⟩ = some (.int .i64 t1) := hGw7.cell (a := ⟨w.heap.size, 1, none⟩) d1 (by simp)
                  have w72 : w7.cell? ⟨w.heap.size, 2, none⟩ = some (.int .i64 t0) := hGw7.cell (a := ⟨w.heap.size, 2, none⟩) d2 (by simp)
                  have hs7 : w.heap.size + 1 < w7.heap.size := by have := hGw7.size; omega
                  have HBw7 := Lib.hid (below_grown HBw.out hGw7 (by omega) (by omega))
                  clear hGw7
                  go_wp2_with fail
                  refine (link_any _ t0 t1 _ _ hA7 ok2).mono ?_
                  rintro e8 w8 ⟨rfl, rfl⟩
                  rw [S3.out, S4.out]
                  go_wp2_with fail
                  refine (link_any _ t1 t0 _ _ hA7 ok2).mono ?_
                  rintro e8 w8 ⟨rfl, rfl⟩
                  rw [S5.out, S6.out]
                  go_wp2_with fail
                  refine (add_any l 1 _ (by omega) (by omega) (by omega) (by omega)).mono ?_
                  rintro e8 w8 ⟨rfl, rfl⟩
                  go_wp2_with fail
                  refine (alive_any _).mono ?_
                  rintro e9 w9 ⟨rfl, hBa⟩
                  have hBt : Below w.heap.size w w9 := HBw7.out.trans (hBa.mono (by omega))
                  clear hBa
                  go_wp2_with fail
                  go_ret
                  exact ⟨rfl, hBt⟩
                · obtain ⟨hh1, hh2, -, -⟩ := hold_up hu
                  have ok1 := ok.hold t0.toNat true
                  have hheld : (k.hold t0.toNat true).held.getD t0.toNat false = true := held_hold ok _ (by have := ok.c1; omega)
                  have L1 := Lib.hid (linkR_eps (k := k) (k' := k.hold t0.toNat true) rfl rfl t0 t1)
                  have LE1 := Lib.hid (linkE_cores (k := k) (k' := k.hold t0.toNat true) rfl t0 t1)
                  have hlk : linkE (k.hold t0.toNat true) t0 t1 = 0 := by rw [LE1.out]; exact hE
                  obtain ⟨s1, s2⟩ := start_held (k := (k.hold t0.toNat true)) hc2.1 hc2.2 hheld
                  obtain ⟨s3, s4⟩ := link_start (k := (k.hold t0.toNat true)) ok1 hc2.1 hc2.2 hheld t0 t1 hlk
                  have ok2 := startR_ok ok1 t0
                  rw [if_pos (.inl rfl)] at s4
                  rw [L1.out] at s4
                  have s5 := linkE_comm _ _ _ s3
                  have s6 := linkR_comm _ _ _ s3
                  rw [s4] at s6
                  have S1 := Lib.hid s1; clear s1
                  have S3 := Lib.hid s3; clear s3
                  have S4 := Lib.hid s4; clear s4
                  have S5 := Lib.hid s5; clear s5
                  have S6 := Lib.hid s6; clear s6
                  clear s2
                  have HH1 := Lib.hid hh1; clear hh1
                  have HH2 := Lib.hid hh2; clear hh2
                  generalize hl : linkR k t0 t1 = l at *
                  have HLl := Lib.hid hl; clear hl
                  have HE := Lib.hid hE; clear hE
                  have HU := Lib.hid hu; clear hu
                  have hge : 0 ≤ t0 := hc2.1
                  have hlc : t0 < c := by have := hc2.2; have := HKC.out; omega
                  clear hc2
                  go_wp2_with fail
                  refine (link_any _ t0 t1 k _ hA ok).mono ?_
                  rintro e3 w3 ⟨rfl, rfl⟩
                  rw [HE.out, HLl.out]
                  go_wp2_with fail
                  refine (up_any _ t0 k _ hA ok).mono ?_
                  rintro e4 w4 ⟨rfl, rfl⟩
                  rw [HU.out]
                  go_wp2_with fail
                  refine (hold_any _ t0 k _ hA ok).mono ?_
                  rintro e5 w5 ⟨rfl, hA5, hGw5⟩
                  rw [HH1.out]
                  rw [HH2.out] at hA5
                  have w50 : w5.cell? ⟨w.heap.size, 0, none⟩ = some (.int .i64 t0) := hGw5.cell (a := ⟨w.heap.size, 0, none⟩) d0 (by simp)
                  have w51 : w5.cell? ⟨w.heap.size, 1, none⟩ = some (.int .i64 t1) := hGw5.cell (a := ⟨w.heap.size, 1, none⟩) d1 (by simp)
                  have w52 : w5.cell? ⟨w.heap.size, 2, none⟩ = some (.int .i64 t0) := hGw5.cell (a := ⟨w.heap.size, 2, none⟩) d2 (by simp)
                  have hs5 : w.heap.size + 1 < w5.heap.size := by have := hGw5.size; omega
                  have HBw5 := Lib.hid (below_grown HBw.out hGw5 (by omega) (by omega))
                  clear hGw5
                  go_wp2_with fail
                  refine (link_any _ t0 t1 (k.hold t0.toNat true) _ hA5 ok1).mono ?_
                  rintro e6 w6 ⟨rfl, rfl⟩
                  rw [LE1.out, L1.out, HE.out]
                  go_wp2_with fail
                  refine (start_any _ t0 (k.hold t0.toNat true) _ hA5 ok1).mono ?_
                  rintro e7 w7 ⟨rfl, hA7, hGw7⟩
                  rw [S1.out]
                  have w70 : w7.cell? ⟨w.heap.size, 0, none⟩ = some (.int .i64 t0) := hGw7.cell (a := ⟨w.heap.size, 0, none⟩) w50 (by simp)
                  have w71 : w7.cell? ⟨w.heap.size, 1, none⟩ = some (.int .i64 t1) := hGw7.cell (a := ⟨w.heap.size, 1, none⟩) w51 (by simp)
                  have w72 : w7.cell? ⟨w.heap.size, 2, none⟩ = some (.int .i64 t0) := hGw7.cell (a := ⟨w.heap.size, 2, none⟩) w52 (by simp)
                  have hs7 : w.heap.size + 1 < w7.heap.size := by have := hGw7.size; omega
                  have HBw7 := Lib.hid (below_grown HBw5.out hGw7 (by omega) (by omega))
                  clear hGw7
                  go_wp2_with fail
                  refine (link_any _ t0 t1 _ _ hA7 ok2).mono ?_
                  rintro e8 w8 ⟨rfl, rfl⟩
                  rw [S3.out, S4.out]
                  go_wp2_with fail
                  refine (link_any _ t1 t0 _ _ hA7 ok2).mono ?_
                  rintro e8 w8 ⟨rfl, rfl⟩
                  rw [S5.out, S6.out]
                  go_wp2_with fail
                  refine (add_any l 1 _ (by omega) (by omega) (by omega) (by omega)).mono ?_
                  rintro e8 w8 ⟨rfl, rfl⟩
                  go_wp2_with fail
                  refine (alive_any _).mono ?_
                  rintro e9 w9 ⟨rfl, hBa⟩
                  have hBt : Below w.heap.size w w9 := HBw7.out.trans (hBa.mono (by omega))
                  clear hBa
                  go_wp2_with fail
                  go_ret
                  exact ⟨rfl, hBt⟩
              · by_cases hq : t2 = t1
                · have hqs := hq.symm
                  subst hqs
                  cases hu : upR k t1
                  · have ok1 := ok
                    have hheld := held_of_down hc2.1 hc2.2 hu
                    have hlk : linkE k t0 t1 = 0 := hE
                    obtain ⟨s1, s2⟩ := start_held (k := k) hc2.1 hc2.2 hheld
                    obtain ⟨s3, s4⟩ := link_start (k := k) ok1 hc2.1 hc2.2 hheld t0 t1 hlk
                    have ok2 := startR_ok ok1 t1
                    rw [if_pos (.inr rfl)] at s4
                    have s5 := linkE_comm _ _ _ s3
                    have s6 := linkR_comm _ _ _ s3
                    rw [s4] at s6
                    have S1 := Lib.hid s1; clear s1
                    have S3 := Lib.hid s3; clear s3
                    have S4 := Lib.hid s4; clear s4
                    have S5 := Lib.hid s5; clear s5
                    have S6 := Lib.hid s6; clear s6
                    clear s2
                    generalize hl : linkR k t0 t1 = l at *
                    have HLl := Lib.hid hl; clear hl
                    have HE := Lib.hid hE; clear hE
                    have HU := Lib.hid hu; clear hu
                    have hge : 0 ≤ t1 := hc2.1
                    have hlc : t1 < c := by have := hc2.2; have := HKC.out; omega
                    clear hc2
                    go_wp2_with fail
                    refine (link_any _ t0 t1 k _ hA ok).mono ?_
                    rintro e3 w3 ⟨rfl, rfl⟩
                    rw [HE.out, HLl.out]
                    go_wp2_with fail
                    refine (up_any _ t1 k _ hA ok).mono ?_
                    rintro e4 w4 ⟨rfl, rfl⟩
                    rw [HU.out]
                    go_wp2_with fail
                    refine (link_any _ t0 t1 k _ hA ok1).mono ?_
                    rintro e6 w6 ⟨rfl, rfl⟩
                    rw [HE.out, HLl.out]
                    go_wp2_with fail
                    refine (start_any _ t1 k _ hA ok1).mono ?_
                    rintro e7 w7 ⟨rfl, hA7, hGw7⟩
                    rw [S1.out]
                    have w70 : w7.cell? ⟨w.heap.size, 0, none⟩ = some (.int .i64 t0) := hGw7.cell (a := ⟨w.heap.size, 0, none⟩) d0 (by simp)
                    have w71 : w7.cell? ⟨w.heap.size, 1, none⟩ = some (.int .i64 t1) := hGw7.cell (a := ⟨w.heap.size, 1, none⟩) d1 (by simp)
                    have w72 : w7.cell? ⟨w.heap.size, 2, none⟩ = some (.int .i64 t1) := hGw7.cell (a := ⟨w.heap.size, 2, none⟩) d2 (by simp)
                    have hs7 : w.heap.size + 1 < w7.heap.size := by have := hGw7.size; omega
                    have HBw7 := Lib.hid (below_grown HBw.out hGw7 (by omega) (by omega))
                    clear hGw7
                    go_wp2_with fail
                    refine (link_any _ t0 t1 _ _ hA7 ok2).mono ?_
                    rintro e8 w8 ⟨rfl, rfl⟩
                    rw [S3.out, S4.out]
                    have hb1 : (t1 == t0) = false := by rw [beq_eq_false_iff_ne]; exact hq0
                    go_wp2_with fail
                    refine (link_any _ t1 t0 _ _ hA7 ok2).mono ?_
                    rintro e8 w8 ⟨rfl, rfl⟩
                    rw [S5.out, S6.out]
                    go_wp2_with fail
                    refine (add_any l 1 _ (by omega) (by omega) (by omega) (by omega)).mono ?_
                    rintro e8 w8 ⟨rfl, rfl⟩
                    go_wp2_with fail
                    refine (alive_any _).mono ?_
                    rintro e9 w9 ⟨rfl, hBa⟩
                    have hBt : Below w.heap.size w w9 := HBw7.out.trans (hBa.mono (by omega))
                    clear hBa
                    go_wp2_with fail
                    go_ret
                    exact ⟨rfl, hBt⟩
                  · obtain ⟨hh1, hh2, -, -⟩ := hold_up hu
                    have ok1 := ok.hold t1.toNat true
                    have hheld : (k.hold t1.toNat true).held.getD t1.toNat false = true := held_hold ok _ (by have := ok.c1; omega)
                    have L1 := Lib.hid (linkR_eps (k := k) (k' := k.hold t1.toNat true) rfl rfl t0 t1)
                    have LE1 := Lib.hid (linkE_cores (k := k) (k' := k.hold t1.toNat true) rfl t0 t1)
                    have hlk : linkE (k.hold t1.toNat true) t0 t1 = 0 := by rw [LE1.out]; exact hE
                    obtain ⟨s1, s2⟩ := start_held (k := (k.hold t1.toNat true)) hc2.1 hc2.2 hheld
                    obtain ⟨s3, s4⟩ := link_start (k := (k.hold t1.toNat true)) ok1 hc2.1 hc2.2 hheld t0 t1 hlk
                    have ok2 := startR_ok ok1 t1
                    rw [if_pos (.inr rfl)] at s4
                    rw [L1.out] at s4
                    have s5 := linkE_comm _ _ _ s3
                    have s6 := linkR_comm _ _ _ s3
                    rw [s4] at s6
                    have S1 := Lib.hid s1; clear s1
                    have S3 := Lib.hid s3; clear s3
                    have S4 := Lib.hid s4; clear s4
                    have S5 := Lib.hid s5; clear s5
                    have S6 := Lib.hid s6; clear s6
                    clear s2
                    have HH1 := Lib.hid hh1; clear hh1
                    have HH2 := Lib.hid hh2; clear hh2
                    generalize hl : linkR k t0 t1 = l at *
                    have HLl := Lib.hid hl; clear hl
                    have HE := Lib.hid hE; clear hE
                    have HU := Lib.hid hu; clear hu
                    have hge : 0 ≤ t1 := hc2.1
                    have hlc : t1 < c := by have := hc2.2; have := HKC.out; omega
                    clear hc2
                    go_wp2_with fail
                    refine (link_any _ t0 t1 k _ hA ok).mono ?_
                    rintro e3 w3 ⟨rfl, rfl⟩
                    rw [HE.out, HLl.out]
                    go_wp2_with fail
                    refine (up_any _ t1 k _ hA ok).mono ?_
                    rintro e4 w4 ⟨rfl, rfl⟩
                    rw [HU.out]
                    go_wp2_with fail
                    refine (hold_any _ t1 k _ hA ok).mono ?_
                    rintro e5 w5 ⟨rfl, hA5, hGw5⟩
                    rw [HH1.out]
                    rw [HH2.out] at hA5
                    have w50 : w5.cell? ⟨w.heap.size, 0, none⟩ = some (.int .i64 t0) := hGw5.cell (a := ⟨w.heap.size, 0, none⟩) d0 (by simp)
                    have w51 : w5.cell? ⟨w.heap.size, 1, none⟩ = some (.int .i64 t1) := hGw5.cell (a := ⟨w.heap.size, 1, none⟩) d1 (by simp)
                    have w52 : w5.cell? ⟨w.heap.size, 2, none⟩ = some (.int .i64 t1) := hGw5.cell (a := ⟨w.heap.size, 2, none⟩) d2 (by simp)
                    have hs5 : w.heap.size + 1 < w5.heap.size := by have := hGw5.size; omega
                    have HBw5 := Lib.hid (below_grown HBw.out hGw5 (by omega) (by omega))
                    clear hGw5
                    go_wp2_with fail
                    refine (link_any _ t0 t1 (k.hold t1.toNat true) _ hA5 ok1).mono ?_
                    rintro e6 w6 ⟨rfl, rfl⟩
                    rw [LE1.out, L1.out, HE.out]
                    go_wp2_with fail
                    refine (start_any _ t1 (k.hold t1.toNat true) _ hA5 ok1).mono ?_
                    rintro e7 w7 ⟨rfl, hA7, hGw7⟩
                    rw [S1.out]
                    have w70 : w7.cell? ⟨w.heap.size, 0, none⟩ = some (.int .i64 t0) := hGw7.cell (a := ⟨w.heap.size, 0, none⟩) w50 (by simp)
                    have w71 : w7.cell? ⟨w.heap.size, 1, none⟩ = some (.int .i64 t1) := hGw7.cell (a := ⟨w.heap.size, 1, none⟩) w51 (by simp)
                    have w72 : w7.cell? ⟨w.heap.size, 2, none⟩ = some (.int .i64 t1) := hGw7.cell (a := ⟨w.heap.size, 2, none⟩) w52 (by simp)
                    have hs7 : w.heap.size + 1 < w7.heap.size := by have := hGw7.size; omega
                    have HBw7 := Lib.hid (below_grown HBw5.out hGw7 (by omega) (by omega))
                    clear hGw7
                    go_wp2_with fail
                    refine (link_any _ t0 t1 _ _ hA7 ok2).mono ?_
                    rintro e8 w8 ⟨rfl, rfl⟩
                    rw [S3.out, S4.out]
                    have hb1 : (t1 == t0) = false := by rw [beq_eq_false_iff_ne]; exact hq0
                    go_wp2_with fail
                    refine (link_any _ t1 t0 _ _ hA7 ok2).mono ?_
                    rintro e8 w8 ⟨rfl, rfl⟩
                    rw [S5.out, S6.out]
                    go_wp2_with fail
                    refine (add_any l 1 _ (by omega) (by omega) (by omega) (by omega)).mono ?_
                    rintro e8 w8 ⟨rfl, rfl⟩
                    go_wp2_with fail
                    refine (alive_any _).mono ?_
                    rintro e9 w9 ⟨rfl, hBa⟩
                    have hBt : Below w.heap.size w w9 := HBw7.out.trans (hBa.mono (by omega))
                    clear hBa
                    go_wp2_with fail
                    go_ret
                    exact ⟨rfl, hBt⟩
                · have hq : ¬ (t2 = t0 ∨ t2 = t1) := by omega
                  cases hu : upR k t2
                  · have ok1 := ok
                    have hheld := held_of_down hc2.1 hc2.2 hu
                    have hlk : linkE k t0 t1 = 0 := hE
                    obtain ⟨s1, s2⟩ := start_held (k := k) hc2.1 hc2.2 hheld
                    obtain ⟨s3, s4⟩ := link_start (k := k) ok1 hc2.1 hc2.2 hheld t0 t1 hlk
                    have ok2 := startR_ok ok1 t2
                    rw [if_neg hq] at s4
                    have s5 := linkE_comm _ _ _ s3
                    have s6 := linkR_comm _ _ _ s3
                    rw [s4] at s6
                    have S1 := Lib.hid s1; clear s1
                    have S3 := Lib.hid s3; clear s3
                    have S4 := Lib.hid s4; clear s4
                    have S5 := Lib.hid s5; clear s5
                    have S6 := Lib.hid s6; clear s6
                    clear s2
                    generalize hl : linkR k t0 t1 = l at *
                    have HLl := Lib.hid hl; clear hl
                    have HE := Lib.hid hE; clear hE
                    have HU := Lib.hid hu; clear hu
                    have hge : 0 ≤ t2 := hc2.1
                    have hlc : t2 < c := by have := hc2.2; have := HKC.out; omega
                    clear hc2
                    go_wp2_with fail
                    refine (link_any _ t0 t1 k _ hA ok).mono ?_
                    rintro e3 w3 ⟨rfl, rfl⟩
                    rw [HE.out, HLl.out]
                    go_wp2_with fail
                    refine (up_any _ t2 k _ hA ok).mono ?_
                    rintro e4 w4 ⟨rfl, rfl⟩
                    rw [HU.out]
                    go_wp2_with fail
                    refine (link_any _ t0 t1 k _ hA ok1).mono ?_
                    rintro e6 w6 ⟨rfl, rfl⟩
                    rw [HE.out, HLl.out]
                    go_wp2_with fail
                    refine (start_any _ t2 k _ hA ok1).mono ?_
                    rintro e7 w7 ⟨rfl, hA7, hGw7⟩
                    rw [S1.out]
                    have w70 : w7.cell? ⟨w.heap.size, 0, none⟩ = some (.int .i64 t0) := hGw7.cell (a := ⟨w.heap.size, 0, none⟩) d0 (by simp)
                    have w71 : w7.cell? ⟨w.heap.size, 1, none⟩ = some (.int .i64 t1) := hGw7.cell (a := ⟨w.heap.size, 1, none⟩) d1 (by simp)
                    have w72 : w7.cell? ⟨w.heap.size, 2, none⟩ = some (.int .i64 t2) := hGw7.cell (a := ⟨w.heap.size, 2, none⟩) d2 (by simp)
                    have hs7 : w.heap.size + 1 < w7.heap.size := by have := hGw7.size; omega
                    have HBw7 := Lib.hid (below_grown HBw.out hGw7 (by omega) (by omega))
                    clear hGw7
                    go_wp2_with fail
                    refine (link_any _ t0 t1 _ _ hA7 ok2).mono ?_
                    rintro e8 w8 ⟨rfl, rfl⟩
                    rw [S3.out, S4.out]
                    have hb1 : (t2 == t0) = false := by rw [beq_eq_false_iff_ne]; omega
                    have hb2 : (t2 == t1) = false := by rw [beq_eq_false_iff_ne]; omega
                    clear hq hq0
                    go_wp2_with fail
                    refine (link_any _ t1 t0 _ _ hA7 ok2).mono ?_
                    rintro e8 w8 ⟨rfl, rfl⟩
                    rw [S5.out, S6.out]
                    go_wp2_with fail
                    refine (add_any l 0 _ (by omega) (by omega) (by omega) (by omega)).mono ?_
                    rintro e8 w8 ⟨rfl, rfl⟩
                    go_wp2_with fail
                    refine (alive_any _).mono ?_
                    rintro e9 w9 ⟨rfl, hBa⟩
                    have hBt : Below w.heap.size w w9 := HBw7.out.trans (hBa.mono (by omega))
                    clear hBa
                    go_wp2_with fail
                    go_ret
                    exact ⟨rfl, hBt⟩
                  · obtain ⟨hh1, hh2, -, -⟩ := hold_up hu
                    have ok1 := ok.hold t2.toNat true
                    have hheld : (k.hold t2.toNat true).held.getD t2.toNat false = true := held_hold ok _ (by have := ok.c1; omega)
                    have L1 := Lib.hid (linkR_eps (k := k) (k' := k.hold t2.toNat true) rfl rfl t0 t1)
                    have LE1 := Lib.hid (linkE_cores (k := k) (k' := k.hold t2.toNat true) rfl t0 t1)
                    have hlk : linkE (k.hold t2.toNat true) t0 t1 = 0 := by rw [LE1.out]; exact hE
                    obtain ⟨s1, s2⟩ := start_held (k := (k.hold t2.toNat true)) hc2.1 hc2.2 hheld
                    obtain ⟨s3, s4⟩ := link_start (k := (k.hold t2.toNat true)) ok1 hc2.1 hc2.2 hheld t0 t1 hlk
                    have ok2 := startR_ok ok1 t2
                    rw [if_neg hq] at s4
                    rw [L1.out] at s4
                    have s5 := linkE_comm _ _ _ s3
                    have s6 := linkR_comm _ _ _ s3
                    rw [s4] at s6
                    have S1 := Lib.hid s1; clear s1
                    have S3 := Lib.hid s3; clear s3
                    have S4 := Lib.hid s4; clear s4
                    have S5 := Lib.hid s5; clear s5
                    have S6 := Lib.hid s6; clear s6
                    clear s2
                    have HH1 := Lib.hid hh1; clear hh1
                    have HH2 := Lib.hid hh2; clear hh2
                    generalize hl : linkR k t0 t1 = l at *
                    have HLl := Lib.hid hl; clear hl
                    have HE := Lib.hid hE; clear hE
                    have HU := Lib.hid hu; clear hu
                    have hge : 0 ≤ t2 := hc2.1
                    have hlc : t2 < c := by have := hc2.2; have := HKC.out; omega
                    clear hc2
                    go_wp2_with fail
                    refine (link_any _ t0 t1 k _ hA ok).mono ?_
                    rintro e3 w3 ⟨rfl, rfl⟩
                    rw [HE.out, HLl.out]
                    go_wp2_with fail
                    refine (up_any _ t2 k _ hA ok).mono ?_
                    rintro e4 w4 ⟨rfl, rfl⟩
                    rw [HU.out]
                    go_wp2_with fail
                    refine (hold_any _ t2 k _ hA ok).mono ?_
                    rintro e5 w5 ⟨rfl, hA5, hGw5⟩
                    rw [HH1.out]
                    rw [HH2.out] at hA5
                    have w50 : w5.cell? ⟨w.heap.size, 0, none⟩ = some (.int .i64 t0) := hGw5.cell (a := ⟨w.heap.size, 0, none⟩) d0 (by simp)
                    have w51 : w5.cell? ⟨w.heap.size, 1, none⟩ = some (.int .i64 t1) := hGw5.cell (a := ⟨w.heap.size, 1, none⟩) d1 (by simp)
                    have w52 : w5.cell? ⟨w.heap.size, 2, none⟩ = some (.int .i64 t2) := hGw5.cell (a := ⟨w.heap.size, 2, none⟩) d2 (by simp)
                    have hs5 : w.heap.size + 1 < w5.heap.size := by have := hGw5.size; omega
                    have HBw5 := Lib.hid (below_grown HBw.out hGw5 (by omega) (by omega))
                    clear hGw5
                    go_wp2_with fail
                    refine (link_any _ t0 t1 (k.hold t2.toNat true) _ hA5 ok1).mono ?_
                    rintro e6 w6 ⟨rfl, rfl⟩
                    rw [LE1.out, L1.out, HE.out]
                    go_wp2_with fail
                    refine (start_any _ t2 (k.hold t2.toNat true) _ hA5 ok1).mono ?_
                    rintro e7 w7 ⟨rfl, hA7, hGw7⟩
                    rw [S1.out]
                    have w70 : w7.cell? ⟨w.heap.size, 0, none⟩ = some (.int .i64 t0) := hGw7.cell (a := ⟨w.heap.size, 0, none⟩) w50 (by simp)
                    have w71 : w7.cell? ⟨w.heap.size, 1, none⟩ = some (.int .i64 t1) := hGw7.cell (a := ⟨w.heap.size, 1, none⟩) w51 (by simp)
                    have w72 : w7.cell? ⟨w.heap.size, 2, none⟩ = some (.int .i64 t2) := hGw7.cell (a := ⟨w.heap.size, 2, none⟩) w52 (by simp)
                    have hs7 : w.heap.size + 1 < w7.heap.size := by have := hGw7.size; omega
                    have HBw7 := Lib.hid (below_grown HBw5.out hGw7 (by omega) (by omega))
                    clear hGw7
                    go_wp2_with fail
                    refine (link_any _ t0 t1 _ _ hA7 ok2).mono ?_
                    rintro e8 w8 ⟨rfl, rfl⟩
                    rw [S3.out, S4.out]
                    have hb1 : (t2 == t0) = false := by rw [beq_eq_false_iff_ne]; omega
                    have hb2 : (t2 == t1) = false := by rw [beq_eq_false_iff_ne]; omega
                    clear hq hq0
                    go_wp2_with fail
                    refine (link_any _ t1 t0 _ _ hA7 ok2).mono ?_
                    rintro e8 w8 ⟨rfl, rfl⟩
                    rw [S5.out, S6.out]
                    go_wp2_with fail
                    refine (add_any l 0 _ (by omega) (by omega) (by omega) (by omega)).mono ?_
                    rintro e8 w8 ⟨rfl, rfl⟩
                    go_wp2_with fail
                    refine (alive_any _).mono ?_
                    rintro e9 w9 ⟨rfl, hBa⟩
                    have hBt : Below w.heap.size w w9 := HBw7.out.trans (hBa.mono (by omega))
                    clear hBa
                    go_wp2_with fail
                    go_ret
                    exact ⟨rfl, hBt⟩
            · have hu : upR k t2 = false := by unfold upR; rw [core_no hc2]; rfl
              have ok1 := ok
              obtain ⟨s1, s2⟩ := start_out hc2
              have ok2 := startR_ok ok1 t2
              have s3 : linkE (startR k t2).1 t0 t1 = 0 := by rw [s2]; exact hE
              have s4 : linkR (startR k t2).1 t0 t1 = (linkR k t0 t1 + 0) % 65536 := by rw [s2]; omega
              have s5 := linkE_comm _ _ _ s3
              have s6 := linkR_comm _ _ _ s3
              rw [s4] at s6
              have S1 := Lib.hid s1; clear s1
              have S3 := Lib.hid s3; clear s3
              have S4 := Lib.hid s4; clear s4
              have S5 := Lib.hid s5; clear s5
              have S6 := Lib.hid s6; clear s6
              clear s2
              generalize hl : linkR k t0 t1 = l at *
              have HLl := Lib.hid hl; clear hl
              have HE := Lib.hid hE; clear hE
              have HU := Lib.hid hu; clear hu
              have hc3 : ¬ (0 ≤ t2 ∧ t2 < c) := by have := HKC.out; omega
              clear hc2
              go_wp2_with fail
              refine (link_any _ t0 t1 k _ hA ok).mono ?_
              rintro e3 w3 ⟨rfl, rfl⟩
              rw [HE.out, HLl.out]
              go_wp2_with fail
              refine (up_any _ t2 k _ hA ok).mono ?_
              rintro e4 w4 ⟨rfl, rfl⟩
              rw [HU.out]
              go_wp2_with fail
              refine (link_any _ t0 t1 k _ hA ok1).mono ?_
              rintro e6 w6 ⟨rfl, rfl⟩
              rw [HE.out, HLl.out]
              go_wp2_with fail
              refine (start_any _ t2 k _ hA ok1).mono ?_
              rintro e7 w7 ⟨rfl, hA7, hGw7⟩
              rw [S1.out]
              have w70 : w7.cell? ⟨w.heap.size, 0, none⟩ = some (.int .i64 t0) := hGw7.cell (a := ⟨w.heap.size, 0, none⟩) d0 (by simp)
              have w71 : w7.cell? ⟨w.heap.size, 1, none⟩ = some (.int .i64 t1) := hGw7.cell (a := ⟨w.heap.size, 1, none⟩) d1 (by simp)
              have w72 : w7.cell? ⟨w.heap.size, 2, none⟩ = some (.int .i64 t2) := hGw7.cell (a := ⟨w.heap.size, 2, none⟩) d2 (by simp)
              have hs7 : w.heap.size + 1 < w7.heap.size := by have := hGw7.size; omega
              have HBw7 := Lib.hid (below_grown HBw.out hGw7 (by omega) (by omega))
              clear hGw7
              go_wp2_with fail
              refine (link_any _ t0 t1 _ _ hA7 ok2).mono ?_
              rintro e8 w8 ⟨rfl, rfl⟩
              rw [S3.out, S4.out]
              go_wp2_with fail
              refine (link_any _ t1 t0 _ _ hA7 ok2).mono ?_
              rintro e8 w8 ⟨rfl, rfl⟩
              rw [S5.out, S6.out]
              go_wp2_with fail
              refine (add_any l 0 _ (by omega) (by omega) (by omega) (by omega)).mono ?_
              rintro e8 w8 ⟨rfl, rfl⟩
              by_cases hz : 0 ≤ t2
              · have hz2 : decide (t2 < c) = false := by simp; omega
                go_wp2_with fail
                refine (alive_any _).mono ?_
                rintro e9 w9 ⟨rfl, hBa⟩
                have hBt : Below w.heap.size w w9 := HBw7.out.trans (hBa.mono (by omega))
                clear hBa
                go_wp2_with fail
                go_ret
                exact ⟨rfl, hBt⟩
              · have hz2 : t2 < 0 := by omega
                go_wp2_with fail
                refine (alive_any _).mono ?_
                rintro e9 w9 ⟨rfl, hBa⟩
                have hBt : Below w.heap.size w w9 := HBw7.out.trans (hBa.mono (by omega))
                clear hBa
                go_wp2_with fail
                go_ret
                exact ⟨rfl, hBt⟩
          · have hE' : (linkE k t0 t1 != 0) = true := by rw [bne_iff_ne]; exact hE
            clear hE
            go_wp2_with fail
            refine (link_any _ t0 t1 k _ hA ok).mono ?_
            rintro e3 w3 ⟨rfl, rfl⟩
            go_wp2_with fail
            refine (alive_any _).mono ?_
            rintro e9 w9 ⟨rfl, hBa⟩
            have hBt : Below w.heap.size w w9 := HBw.out.trans (hBa.mono (by omega))
            clear hBa
            go_wp2_with fail
            go_ret
            exact ⟨rfl, hBt⟩
  · go_enter Try.func3, Try.ntmps3
    go_wp2_with fail
    refine (new_no c _ hn).mono ?_
    rintro e w1 ⟨rfl, rfl⟩
    have heq := eq_nil
    go_wp2_with fail
    refine (alive_any _).mono ?_
    rintro e9 w9 ⟨rfl, hBa⟩
    rw [HZ0.out] at hBa
    have hBt : Below w.heap.size w w9 := HB0.out.trans (hBa.mono (by omega))
    clear hBa
    go_wp2_with fail
    go_ret
    exact ⟨rfl, hBt⟩

end Go.Proofs.Ytghigbohaifooaa.Gates
