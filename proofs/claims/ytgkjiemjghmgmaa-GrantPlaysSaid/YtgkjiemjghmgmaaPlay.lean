/- GrantPlays: the walk of the law: whatever the number and the calls, it comes to true, and what was there in memory is as it was. -/
import Derived.Test.YtgkjiemjghmgmaaPlayRef3
import Derived.Test.YtgkjiemjghmgmaaOps
namespace Go.Proofs.Ytgkjiemjghmgmaa.Grants
set_option linter.unusedVariables false
set_option linter.unusedSimpArgs false
open Go.RowKit Go.Proofs.Ytgkjiemjghmgmaa.PGrantPlays Go.Proofs.YtgkjiemjghmgmaaW.PrintWords

theorem At.below {u u' : World} {b : Nat} {k : Tb} (h : At u b k) (hb : Below u.heap.size u u') : At u' b k := (hb.block b (lt_of_block h)).trans h
theorem At.set {u : World} {b : Nat} {k : Tb} (h : At u b k) (p : Addr) (v : Value) (hne : p.block ≠ b) : At (u.setCell p v) b k := by
  unfold At at *
  rw [Below.heap_setCell _ _ _ _ (fun e => hne e.symm)]
  exact h

/-- What holds all along: the call for the end, the program's table, the reference's, and what was there. -/
structure PG (w : World) (kind core : Int) (k : Tb) (A : Option Addr) (cap : Nat) (u : World) : Prop where
  more : u.heap[w.heap.size]? = some (.cells #[.int .i64 kind, .int .i64 core] 28 (0, 0))
  at_ : At u (w.heap.size + 1) k
  sg : Sg u (w.heap.size + 2) (.slice A (absT k).length cap) (absT k)
  bel : Below w.heap.size w u

theorem PG.below {w : World} {kind core : Int} {k : Tb} {A : Option Addr} {cap : Nat} {u u' : World} (h : PG w kind core k A cap u) (hb : Below u.heap.size u u') : PG w kind core k A cap u' :=
  ⟨(hb.block _ (lt_of_block h.more)).trans h.more, h.at_.below hb, h.sg.below hb, h.bel.trans (hb.mono h.bel.size)⟩
theorem PG.step {w : World} {kind core : Int} {k k' : Tb} {A A' : Option Addr} {cap cap' : Nat} {u u' : World} (h : PG w kind core k A cap u) (hs : Sg u (w.heap.size + 2) (.slice A' (absT k').length cap') (absT k')) (hA : At u' (w.heap.size + 1) k') (hg : u.grownBy u' (some (w.heap.size + 1))) : PG w kind core k' A' cap' u' :=
  ⟨(hg.block _ (lt_of_block h.more) (by simp)).trans h.more, hA, hs.grownT h.at_ hg, below_grown h.bel hg h.bel.size (by omega)⟩
theorem PG.set {w : World} {kind core : Int} {k : Tb} {A : Option Addr} {cap : Nat} {u : World} (h : PG w kind core k A cap u) (x j : Nat) (v : Value) (hx : w.heap.size + 2 ≤ x) (hne : ∃ cs t, u.heap[x]? = some (.cells cs t (0, 0)) ∧ t ≠ 56) : PG w kind core k A cap (u.setCell ⟨x, j, none⟩ v) :=
  ⟨by rw [Below.heap_setCell _ _ _ _ (by show w.heap.size ≠ x; omega)]; exact h.more, h.at_.set _ _ (by show x ≠ w.heap.size + 1; omega), h.sg.set _ _ hne, h.bel.setCell (by show w.heap.size ≤ x; omega) _⟩

/-- What holds at the end. -/
structure EG (w : World) (b y B : Nat) (k k' : Tb) (A : Option Addr) (cap : Nat) (A' : Option Addr) (cap' : Nat) (u : World) : Prop where
  a0 : At u b k
  a1 : At u y k'
  r0 : Sg u B (.slice A (absT k).length cap) (absT k)
  r1 : Sg u B (.slice A' (absT k').length cap') (absT k')
  bel : Below w.heap.size w u
theorem EG.keep {w : World} {b y B : Nat} {k k' : Tb} {A : Option Addr} {cap : Nat} {A' : Option Addr} {cap' : Nat} {u u' : World} (h : EG w b y B k k' A cap A' cap' u) (hb : Below u.heap.size u u') : EG w b y B k k' A cap A' cap' u' :=
  ⟨h.a0.below hb, h.a1.below hb, h.r0.below hb, h.r1.below hb, h.bel.trans (hb.mono h.bel.size)⟩
theorem EG.set {w : World} {b y B : Nat} {k k' : Tb} {A : Option Addr} {cap : Nat} {A' : Option Addr} {cap' : Nat} {u : World} (h : EG w b y B k k' A cap A' cap' u) (x j : Nat) (v : Value) (h0 : w.heap.size ≤ x) (h1 : x ≠ b) (h2 : x ≠ y) (hne : ∃ cs t, u.heap[x]? = some (.cells cs t (0, 0)) ∧ t ≠ 56) : EG w b y B k k' A cap A' cap' (u.setCell ⟨x, j, none⟩ v) :=
  ⟨h.a0.set _ _ h1, h.a1.set _ _ h2, h.r0.set _ _ hne, h.r1.set _ _ hne, h.bel.setCell h0 _⟩

theorem neq_ptr (b : Nat) (w : World) : (binOp .eql 23 (.pointer (some ⟨b, 0, none⟩)) (.pointer none)).run Try.prog w = .ok (.bool false) w := by kernel_rfl
theorem eq_nil (w : World) : (binOp .eql 23 (.pointer none) (.pointer none)).run Try.prog w = .ok (.bool true) w := by kernel_rfl

theorem pdo_any {k k' : Tb} {kind c rx re : Int} (hd : doR k kind c = (k', rx, re)) (ok : k.Ok) (b : Nat) (w : World) (h : At w b k) :
    Calls Try.prog 17 #[.pointer (some ⟨b, 0, none⟩), .agg #[.int .i64 kind, .int .i64 c]] w fun e w' => e = .returned (.tuple #[.int .i64 rx, .int .i64 re]) ∧ At w' b k' ∧ w.grownBy w' (some b) := by
  have := do_any b kind c k w h ok
  rw [hd] at this
  exact this
theorem rdo_one {k k' : Tb} {kind c rx re : Int} (hd : doR k kind c = (k', rx, re)) (hk : kind ≠ 3) : rdoR k kind c = (k', rx, re) := by
  unfold rdoR
  rw [if_neg hk]
  exact hd

set_option maxHeartbeats 4000000 in
set_option maxRecDepth 100000 in
theorem play_walk (c kind core : Int) (A : Option Addr) (len cap : Nat) (ops : List (List Int)) (w : World) (ho : Ops.OpsAt w w.heap.size 2 (.slice A len cap) ops) :
    Calls Try.prog 4 #[.int .i64 c, .slice A len cap, .agg #[.int .i64 kind, .int .i64 core]] w fun e w' => e = .returned (.bool true) ∧ Below w.heap.size w w' := by
  obtain ⟨A', len', cap', hv, hol, hlm, hall, hcells⟩ := ho
  injection hv with e1 e2 e3
  subst e1 e2 e3
  unfold maxLen at hlm
  have HALL := Lib.hid hall; clear hall
  have HOL := Lib.hid hol; clear hol
  have HC := Lib.hid hcells; clear hcells
  have heq := neq_ptr
  have heq2 := eq_nil
  have hB0 : Below w.heap.size w (w.alloc (.cells #[.int .i64 kind, .int .i64 core] 28)) := (Below.refl _ _).alloc (Nat.le_refl _) _
  by_cases h1 : 150 < len
  · go_enter Try.func4, Try.ntmps4
    go_wp2_with fail
    refine (alive_any _).mono ?_
    rintro e w' ⟨rfl, hBa⟩
    have hBt := hB0.trans (hBa.mono (by simp))
    clear hBa
    go_wp2_with fail
    go_ret
    exact ⟨rfl, hBt⟩
  · by_cases hn : isNew c
    · have ok0 := newTb_ok hn
      have hmk := make_run c hn
      have hmr := Lib.hid (make_row c hn)
      go_enter Try.func4, Try.ntmps4
      go_wp2_with fail
      refine (new_yes c _ hn).mono ?_
      rintro e w1 ⟨rfl, hA1, hB1, hs1⟩
      have hm1 : w1.heap[w.heap.size]? = some (.cells #[.int .i64 kind, .int .i64 core] 28 (0, 0)) := (hB1.block _ (by simp)).trans (heap_alloc_new w _)
      have hT1 := hB0.trans (hB1.mono (by simp))
      have hA1' : At w1 (w.heap.size + 1) (newTb c) := by simpa using hA1
      have hs1' : w.heap.size + 1 < w1.heap.size := by simpa using hs1
      clear hA1 hB1 hs1 hB0
      go_wp2_with fail
      refine (is_yes c hn _).mono ?_
      rintro e w2 ⟨rfl, hB2⟩
      have hm2 := (hB2.block _ (lt_of_block hm1)).trans hm1
      have hA2 := hA1'.below hB2
      have hT2 := hT1.trans (hB2.mono hT1.size)
      have hs2 : w.heap.size + 1 < w2.heap.size := by have := hB2.size; omega
      clear hm1 hA1' hT1 hB2 hs1'
      have hln : w2.cell? ⟨w.heap.size + 1, 0, none⟩ = some (.int .i64 c) := hA2.n
      have P0 : PG w kind core (newTb c) (some ⟨w2.heap.size, 0, none⟩) c.toNat (w2.alloc (.cells (madeCells #[.int .i64 0, .bool false] (c.toNat * 2)) 56)) :=
        ⟨by rw [heap_alloc_old _ _ (lt_of_block hm2)]; exact hm2, hA2.alloc _, (hmr.out w2).lower (by omega), hT2.alloc hT2.size _⟩
      clear hm2 hA2 hT2
      have HP0 := Lib.hid P0; clear P0
      go_wp2_with fail
      refine (len_any (w.heap.size + 1) c _ hln).mono ?_
      rintro e w3 ⟨rfl, rfl⟩
      clear hln
      go_wp2_with fail
      go_loopw [48, 8] (fun j v wr => ∃ (m : Nat) (k : Tb) (Ak : Option Addr) (capk : Nat), m ≤ len ∧ j = .int .i64 m ∧ v = .slice Ak (absT k).length capk ∧ k.Ok ∧ k.n = c ∧ PG w kind core k Ak capk wr)
        (fun j _ _ => len - (intOf j).toNat)
      case atStart => exact ⟨0, newTb c, _, _, by omega, rfl, rfl, ok0, rfl, HP0.out⟩
      case round =>
        obtain ⟨m, k, Ak, capk, hm, rfl, rfl, ok, hkc, hP⟩ := hrel
        clear HP0 ok0 hmk hmr
        have HKC := Lib.hid hkc; clear hkc
        by_cases hlt : m < len
        · obtain ⟨b0, off, rfl, hb0, hcell⟩ := HC.out (by omega)
          have g0 := hcell m 0 hlt (by omega)
          have g1 := hcell m 1 hlt (by omega)
          clear hcell
          generalize (ops.getD m []).getD 0 0 = o0 at *
          generalize (ops.getD m []).getD 1 0 = o1 at *
          have q0 : wr.cell? ⟨b0, off + m * 2, none⟩ = some (.int .i64 o0) := (hP.bel.cell (p := ⟨b0, off + m * 2, none⟩) hb0).trans g0
          have q1 : wr.cell? ⟨b0, off + m * 2 + 1, none⟩ = some (.int .i64 o1) := (hP.bel.cell (p := ⟨b0, off + m * 2 + 1, none⟩) hb0).trans g1
          clear g0 g1
          have hbounds : m < 9223372036854775807 := by omega
          have hP1 := hP.below ((Below.refl wr.heap.size wr).alloc (Nat.le_refl _) (.cells #[.int .i64 o0, .int .i64 o1] 28))
          have hsz : w.heap.size + 2 ≤ wr.heap.size := by have := lt_of_block hP.at_; omega
          have HP1 := Lib.hid hP1; clear hP1
          clear hP
          by_cases h3 : o0 = 3
          · subst h3
            have hy := rhandle_any k ok o1 Ak capk (w.heap.size + 2) _ HP1.out.sg
            obtain ⟨k', rx, re, hd⟩ : ∃ k' rx re, doR k 1 (handleR k o1) = (k', rx, re) := ⟨_, _, _, rfl⟩
            have ok' : k'.Ok := by have := doR_ok ok 1 (handleR k o1); rw [hd] at this; exact this
            have HC' := Lib.hid (show k'.n = k.n by have := doR_n k 1 (handleR k o1); rw [hd] at this; exact this)
            have HD := Lib.hid hd; clear hd
            generalize handleR k o1 = y at *
            have HY := Lib.hid hy; clear hy
            go_wp2_with fail
            refine HY.out.mono ?_
            rintro e w1 ⟨rfl, hB1⟩
            have hbx := (hB1.block wr.heap.size (by simp)).trans (heap_alloc_new wr _)
            have c0 := (blk_cell hbx 0).trans rfl
            have c1 := (blk_cell hbx 1).trans rfl
            have f0 := blk_frozen hbx 0
            have f1 := blk_frozen hbx 1
            have hs1 := hB1.size
            have hp := ((HP1.out.below hB1).set wr.heap.size 0 (.int .i64 1) hsz ⟨_, _, hbx, by decide⟩).set wr.heap.size 1 (.int .i64 y) hsz ⟨_, _, blk_put hbx 0 _ rfl, by decide⟩
            have HPU := Lib.hid hp; clear hp
            have hbb := blk_put (blk_put hbx 0 (.int .i64 1) rfl) 1 (.int .i64 y) rfl
            have HBX := Lib.hid hbb; clear hbb
            clear hbx hB1
            have hs1' : wr.heap.size ≤ w1.heap.size := by simp at hs1; omega
            clear hs1
            go_wp2_with fail
            refine (rdo_any (rdo_one HD.out (by decide)) ok Ak capk (w.heap.size + 2) _ HPU.out.sg (Nat.le_trans hsz (by simpa [World.setCell] using hs1'))).mono ?_
            rintro e w2 ⟨A2, cap2, rfl, hS2, hB2⟩
            have hP2 := HPU.out.below hB2
            have hbx2 := (hB2.block _ (lt_of_block HBX.out)).trans HBX.out
            have k0 := (blk_cell hbx2 0).trans rfl
            have k1 := (blk_cell hbx2 1).trans rfl
            have HP2 := Lib.hid hP2; clear hP2 hB2 hbx2
            have HS2 := Lib.hid hS2; clear hS2
            go_wp2_with fail
            refine (pdo_any HD.out ok (w.heap.size + 1) _ HP2.out.at_).mono ?_
            rintro e w3 ⟨rfl, hA3, hG3⟩
            have HP3 := Lib.hid (HP2.out.step HS2.out hA3 hG3)
            clear hA3 hG3 k0 k1
            go_wp2_with fail
            refine (pheld_any (w.heap.size + 1) k' ok' _ HP3.out.at_).mono ?_
            rintro e w4 ⟨A4, cap4, rfl, hc4, hC4, hB4⟩
            have HP4 := Lib.hid (HP3.out.below hB4)
            have HC4 := Lib.hid hC4; clear hC4 hB4
            go_wp2_with fail
            refine (rheld_any k' ok' A2 cap2 (w.heap.size + 2) _ HP4.out.sg).mono ?_
            rintro e w5 ⟨A5, cap5, rfl, hc5, hC5, hB5⟩
            have HP5 := Lib.hid (HP4.out.below hB5)
            have HC45 := Lib.hid (Kd.C_below HC4.out hB5)
            have HC5 := Lib.hid hC5; clear hC5 hB5
            go_wp2_with fail
            refine (same_ll A4 cap4 A5 cap5 (heldR k') _ hc4 hc5 HC45.out HC5.out (held_len k' ok')).mono ?_
            rintro e w6 ⟨rfl, hB6⟩
            have HP6 := Lib.hid (HP5.out.below hB6)
            clear hB6
            go_wp2_with fail
            go_roundw
            case rel => exact ⟨m + 1, k', A2, cap2, by omega, by go_num, rfl, ok', HC'.out.trans HKC.out, HP6.out⟩
            case measure => simp [intOf]; omega
          · obtain ⟨k', rx, re, hd⟩ : ∃ k' rx re, doR k o0 o1 = (k', rx, re) := ⟨_, _, _, rfl⟩
            have ok' : k'.Ok := by have := doR_ok ok o0 o1; rw [hd] at this; exact this
            have HC' := Lib.hid (show k'.n = k.n by have := doR_n k o0 o1; rw [hd] at this; exact this)
            have HD := Lib.hid hd; clear hd

            have hb3 : (o0 == 3) = false := by rw [beq_eq_false_iff_ne]; exact h3
            have HPU := HP1
            have HBX := Lib.hid (heap_alloc_new wr (.cells #[.int .i64 o0, .int .i64 o1] 28))
            have H3 := Lib.hid h3; clear h3
            go_wp2_with fail
            refine (rdo_any (rdo_one HD.out H3.out) ok Ak capk (w.heap.size + 2) _ HPU.out.sg (Nat.le_trans hsz (by simp))).mono ?_
            rintro e w2 ⟨A2, cap2, rfl, hS2, hB2⟩
            have hP2 := HPU.out.below hB2
            have hbx2 := (hB2.block _ (lt_of_block HBX.out)).trans HBX.out
            have k0 := (blk_cell hbx2 0).trans rfl
            have k1 := (blk_cell hbx2 1).trans rfl
            have HP2 := Lib.hid hP2; clear hP2 hB2 hbx2
            have HS2 := Lib.hid hS2; clear hS2
            go_wp2_with fail
            refine (pdo_any HD.out ok (w.heap.size + 1) _ HP2.out.at_).mono ?_
            rintro e w3 ⟨rfl, hA3, hG3⟩
            have HP3 := Lib.hid (HP2.out.step HS2.out hA3 hG3)
            clear hA3 hG3 k0 k1
            go_wp2_with fail
            refine (pheld_any (w.heap.size + 1) k' ok' _ HP3.out.at_).mono ?_
            rintro e w4 ⟨A4, cap4, rfl, hc4, hC4, hB4⟩
            have HP4 := Lib.hid (HP3.out.below hB4)
            have HC4 := Lib.hid hC4; clear hC4 hB4
            go_wp2_with fail
            refine (rheld_any k' ok' A2 cap2 (w.heap.size + 2) _ HP4.out.sg).mono ?_
            rintro e w5 ⟨A5, cap5, rfl, hc5, hC5, hB5⟩
            have HP5 := Lib.hid (HP4.out.below hB5)
            have HC45 := Lib.hid (Kd.C_below HC4.out hB5)
            have HC5 := Lib.hid hC5; clear hC5 hB5
            go_wp2_with fail
            refine (same_ll A4 cap4 A5 cap5 (heldR k') _ hc4 hc5 HC45.out HC5.out (held_len k' ok')).mono ?_
            rintro e w6 ⟨rfl, hB6⟩
            have HP6 := Lib.hid (HP5.out.below hB6)
            clear hB6
            go_wp2_with fail
            go_roundw
            case rel => exact ⟨m + 1, k', A2, cap2, by omega, by go_num, rfl, ok', HC'.out.trans HKC.out, HP6.out⟩
            case measure => simp [intOf]; omega
        · have hml : m = len := by omega
          subst hml
          have hA3 := hP.at_
          have hsz : w.heap.size + 2 ≤ wr.heap.size := by have := lt_of_block hP.at_; omega
          have HP2 := Lib.hid hP; clear hP
          by_cases h3 : kind = 3
          · subst h3
            obtain ⟨k', rx, re, hd⟩ : ∃ k' rx re, doR k 1 (handleR k core) = (k', rx, re) := ⟨_, _, _, rfl⟩
            have ok' : k'.Ok := by have := doR_ok ok 1 (handleR k core); rw [hd] at this; exact this
            have HD := Lib.hid hd
            have hr : rdoR k 3 core = (k', rx, re) := by unfold rdoR; rw [if_pos rfl]; exact hd
            have HR := Lib.hid hr; clear hr hd
            obtain ⟨y, hy⟩ : ∃ y, handleR k core = y := ⟨_, rfl⟩
            have HY := Lib.hid hy
            rw [hy] at HD
            clear hy
            go_wp2_with fail
            refine (clone_any (w.heap.size + 1) k _ hA3 ok).mono ?_
            rintro e w4 ⟨rfl, hA4, hB4, hs4⟩
            have hP4 := HP2.out.below hB4
            have hln : w4.cell? ⟨wr.heap.size, 0, none⟩ = some (.int .i64 c) := by have := hA4.n; rw [HKC.out] at this; exact this
            have m0 : w4.cell? ⟨w.heap.size, 0, none⟩ = some (.int .i64 3) := (blk_cell hP4.more 0).trans rfl
            have m1 : w4.cell? ⟨w.heap.size, 1, none⟩ = some (.int .i64 core) := (blk_cell hP4.more 1).trans rfl
            have HP4 := Lib.hid hP4; clear hP4
            clear hB4 hA3
            go_wp2_with fail
            refine (len_any wr.heap.size c _ hln).mono ?_
            rintro e w5 ⟨rfl, rfl⟩
            clear hln
            go_wp2_with fail
            refine (rdo_any HR.out ok Ak capk (w.heap.size + 2) _ HP4.out.sg (by omega)).mono ?_
            rintro e w6 ⟨A2, cap2, rfl, hS6, hB6⟩
            have hP6 := HP4.out.below hB6
            have hA6 := hA4.below hB6
            have hs6 : wr.heap.size < w6.heap.size := by have := hB6.size; omega
            have n0 : w6.cell? ⟨w.heap.size, 0, none⟩ = some (.int .i64 3) := (blk_cell hP6.more 0).trans rfl
            have n1 : w6.cell? ⟨w.heap.size, 1, none⟩ = some (.int .i64 core) := (blk_cell hP6.more 1).trans rfl
            have HE6 := Lib.hid (show EG w (w.heap.size + 1) wr.heap.size (w.heap.size + 2) k k Ak capk Ak capk w6 from ⟨hP6.at_, hA6, hP6.sg, hP6.sg, hP6.bel⟩)
            have HM6 := Lib.hid hP6.more; clear hP6
            have HS6 := Lib.hid hS6; clear hS6
            clear hB6 hA4 m0 m1 hA6
            go_wp2_with fail
            refine (rhandle_any k ok core Ak capk (w.heap.size + 2) _ HE6.out.r0).mono ?_
            rintro e w7 ⟨rfl, hB7⟩
            have hbx := (hB7.block _ (lt_of_block HM6.out)).trans HM6.out
            have c0 := (blk_cell hbx 0).trans rfl
            have c1 := (blk_cell hbx 1).trans rfl
            have f0 := blk_frozen hbx 0
            have f1 := blk_frozen hbx 1
            rw [HY.out]
            have hE8 := ((HE6.out.keep hB7).set w.heap.size 0 (.int .i64 1) (Nat.le_refl _) (by omega) (by omega) ⟨_, _, hbx, by decide⟩).set w.heap.size 1 (.int .i64 y) (Nat.le_refl _) (by omega) (by omega) ⟨_, _, blk_put hbx 0 _ rfl, by decide⟩
            have hS8 := ((HS6.out.below hB7).set ⟨w.heap.size, 0, none⟩ (.int .i64 1) ⟨_, _, hbx, by decide⟩).set ⟨w.heap.size, 1, none⟩ (.int .i64 y) ⟨_, _, blk_put hbx 0 _ rfl, by decide⟩
            have HE8 := Lib.hid hE8; clear hE8
            have HS8 := Lib.hid hS8; clear hS8
            clear hB7 hbx n0 n1
            go_wp2_with fail
            refine (pdo_any HD.out ok wr.heap.size _ HE8.out.a1).mono ?_
            rintro e w9 ⟨rfl, hA9, hG9⟩
            have hE : EG w (w.heap.size + 1) wr.heap.size (w.heap.size + 2) k k' Ak capk A2 cap2 w9 :=
              ⟨(hG9.block _ (lt_of_block HE8.out.a0) (by simp; omega)).trans HE8.out.a0, hA9, HE8.out.r0.grownT HE8.out.a1 hG9, HS8.out.grownT HE8.out.a1 hG9, below_grown HE8.out.bel hG9 HE8.out.bel.size (by omega)⟩
            have HE9 := Lib.hid hE; clear hE
            clear hA9 hG9
            go_wp2_with fail
            refine (pheld_any wr.heap.size k' ok' _ HE9.out.a1).mono ?_
            rintro e w10 ⟨A10, cap10, rfl, hc10, hC10, hB10⟩
            have HE10 := Lib.hid (HE9.out.keep hB10)
            have HC10 := Lib.hid hC10; clear hC10 hB10
            go_wp2_with fail
            refine (rheld_any k' ok' A2 cap2 (w.heap.size + 2) _ HE10.out.r1).mono ?_
            rintro e w11 ⟨A11, cap11, rfl, hc11, hC11, hB11⟩
            have HE11 := Lib.hid (HE10.out.keep hB11)
            have HC101 := Lib.hid (Kd.C_below HC10.out hB11)
            have HC11 := Lib.hid hC11; clear hC11 hB11
            go_wp2_with fail
            refine (same_ll A10 cap10 A11 cap11 (heldR k') _ hc10 hc11 HC101.out HC11.out (held_len k' ok')).mono ?_
            rintro e w12 ⟨rfl, hB12⟩
            have HE12 := Lib.hid (HE11.out.keep hB12)
            clear hB12
            go_wp2_with fail
            refine (pheld_any (w.heap.size + 1) k ok _ HE12.out.a0).mono ?_
            rintro e w13 ⟨A13, cap13, rfl, hc13, hC13, hB13⟩
            have HE13 := Lib.hid (HE12.out.keep hB13)
            have HC13 := Lib.hid hC13; clear hC13 hB13
            go_wp2_with fail
            refine (rheld_any k ok Ak capk (w.heap.size + 2) _ HE13.out.r0).mono ?_
            rintro e w14 ⟨A14, cap14, rfl, hc14, hC14, hB14⟩
            have HE14 := Lib.hid (HE13.out.keep hB14)
            have HC134 := Lib.hid (Kd.C_below HC13.out hB14)
            have HC14 := Lib.hid hC14; clear hC14 hB14
            go_wp2_with fail
            refine (same_ll A13 cap13 A14 cap14 (heldR k) _ hc13 hc14 HC134.out HC14.out (held_len k ok)).mono ?_
            rintro e w15 ⟨rfl, hB15⟩
            have HE15 := Lib.hid (HE14.out.keep hB15)
            clear hB15
            go_wp2_with fail
            refine (alive_any _).mono ?_
            rintro e w16 ⟨rfl, hB16⟩
            have hBt := (HE15.out.keep hB16).bel
            clear hB16
            go_wp2_with fail
            go_ret
            exact ⟨rfl, hBt⟩
          · obtain ⟨k', rx, re, hd⟩ : ∃ k' rx re, doR k kind core = (k', rx, re) := ⟨_, _, _, rfl⟩
            have ok' : k'.Ok := by have := doR_ok ok kind core; rw [hd] at this; exact this
            have HD := Lib.hid hd
            have HR := Lib.hid (rdo_one hd h3); clear hd
            have hb3 : (kind == 3) = false := by rw [beq_eq_false_iff_ne]; exact h3
            clear h3
            go_wp2_with fail
            refine (clone_any (w.heap.size + 1) k _ hA3 ok).mono ?_
            rintro e w4 ⟨rfl, hA4, hB4, hs4⟩
            have hP4 := HP2.out.below hB4
            have hln : w4.cell? ⟨wr.heap.size, 0, none⟩ = some (.int .i64 c) := by have := hA4.n; rw [HKC.out] at this; exact this
            have m0 : w4.cell? ⟨w.heap.size, 0, none⟩ = some (.int .i64 kind) := (blk_cell hP4.more 0).trans rfl
            have m1 : w4.cell? ⟨w.heap.size, 1, none⟩ = some (.int .i64 core) := (blk_cell hP4.more 1).trans rfl
            have HP4 := Lib.hid hP4; clear hP4
            clear hB4 hA3
            go_wp2_with fail
            refine (len_any wr.heap.size c _ hln).mono ?_
            rintro e w5 ⟨rfl, rfl⟩
            clear hln
            go_wp2_with fail
            refine (rdo_any HR.out ok Ak capk (w.heap.size + 2) _ HP4.out.sg (by omega)).mono ?_
            rintro e w6 ⟨A2, cap2, rfl, hS6, hB6⟩
            have hP6 := HP4.out.below hB6
            have hA6 := hA4.below hB6
            have hs6 : wr.heap.size < w6.heap.size := by have := hB6.size; omega
            have n0 : w6.cell? ⟨w.heap.size, 0, none⟩ = some (.int .i64 kind) := (blk_cell hP6.more 0).trans rfl
            have n1 : w6.cell? ⟨w.heap.size, 1, none⟩ = some (.int .i64 core) := (blk_cell hP6.more 1).trans rfl
            have HE6 := Lib.hid (show EG w (w.heap.size + 1) wr.heap.size (w.heap.size + 2) k k Ak capk Ak capk w6 from ⟨hP6.at_, hA6, hP6.sg, hP6.sg, hP6.bel⟩)
            have HM6 := Lib.hid hP6.more; clear hP6
            have HS6 := Lib.hid hS6; clear hS6
            clear hB6 hA4 m0 m1 hA6
            go_wp2_with fail
            refine (pdo_any HD.out ok wr.heap.size _ HE6.out.a1).mono ?_
            rintro e w9 ⟨rfl, hA9, hG9⟩
            have hE : EG w (w.heap.size + 1) wr.heap.size (w.heap.size + 2) k k' Ak capk A2 cap2 w9 :=
              ⟨(hG9.block _ (lt_of_block HE6.out.a0) (by simp; omega)).trans HE6.out.a0, hA9, HE6.out.r0.grownT HE6.out.a1 hG9, HS6.out.grownT HE6.out.a1 hG9, below_grown HE6.out.bel hG9 HE6.out.bel.size (by omega)⟩
            have HE9 := Lib.hid hE; clear hE
            clear hA9 hG9
            go_wp2_with fail
            refine (pheld_any wr.heap.size k' ok' _ HE9.out.a1).mono ?_
            rintro e w10 ⟨A10, cap10, rfl, hc10, hC10, hB10⟩
            have HE10 := Lib.hid (HE9.out.keep hB10)
            have HC10 := Lib.hid hC10; clear hC10 hB10
            go_wp2_with fail
            refine (rheld_any k' ok' A2 cap2 (w.heap.size + 2) _ HE10.out.r1).mono ?_
            rintro e w11 ⟨A11, cap11, rfl, hc11, hC11, hB11⟩
            have HE11 := Lib.hid (HE10.out.keep hB11)
            have HC101 := Lib.hid (Kd.C_below HC10.out hB11)
            have HC11 := Lib.hid hC11; clear hC11 hB11
            go_wp2_with fail
            refine (same_ll A10 cap10 A11 cap11 (heldR k') _ hc10 hc11 HC101.out HC11.out (held_len k' ok')).mono ?_
            rintro e w12 ⟨rfl, hB12⟩
            have HE12 := Lib.hid (HE11.out.keep hB12)
            clear hB12
            go_wp2_with fail
            refine (pheld_any (w.heap.size + 1) k ok _ HE12.out.a0).mono ?_
            rintro e w13 ⟨A13, cap13, rfl, hc13, hC13, hB13⟩
            have HE13 := Lib.hid (HE12.out.keep hB13)
            have HC13 := Lib.hid hC13; clear hC13 hB13
            go_wp2_with fail
            refine (rheld_any k ok Ak capk (w.heap.size + 2) _ HE13.out.r0).mono ?_
            rintro e w14 ⟨A14, cap14, rfl, hc14, hC14, hB14⟩
            have HE14 := Lib.hid (HE13.out.keep hB14)
            have HC134 := Lib.hid (Kd.C_below HC13.out hB14)
            have HC14 := Lib.hid hC14; clear hC14 hB14
            go_wp2_with fail
            refine (same_ll A13 cap13 A14 cap14 (heldR k) _ hc13 hc14 HC134.out HC14.out (held_len k ok)).mono ?_
            rintro e w15 ⟨rfl, hB15⟩
            have HE15 := Lib.hid (HE14.out.keep hB15)
            clear hB15
            go_wp2_with fail
            refine (alive_any _).mono ?_
            rintro e w16 ⟨rfl, hB16⟩
            have hBt := (HE15.out.keep hB16).bel
            clear hB16
            go_wp2_with fail
            go_ret
            exact ⟨rfl, hBt⟩
    · go_enter Try.func4, Try.ntmps4
      go_wp2_with fail
      refine (new_no c _ hn).mono ?_
      rintro e w1 ⟨rfl, rfl⟩
      go_wp2_with fail
      refine (is_no c hn _).mono ?_
      rintro e w1 ⟨rfl, hB1⟩
      have hB1' := hB0.trans (hB1.mono (by simp))
      clear hB1
      go_wp2_with fail
      refine (alive_any _).mono ?_
      rintro e w' ⟨rfl, hBa⟩
      have hBt := hB1'.trans (hBa.mono hB1'.size)
      clear hBa
      go_wp2_with fail
      go_ret
      exact ⟨rfl, hBt⟩

end Go.Proofs.Ytgkjiemjghmgmaa.Grants
