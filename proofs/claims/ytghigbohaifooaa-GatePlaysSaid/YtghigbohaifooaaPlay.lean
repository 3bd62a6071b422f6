/- GatePlays: the walk of the law: whatever the number and the calls, it comes to true, and what was there in memory is as it was. -/
import Derived.Test.YtghigbohaifooaaPlayMake
import Derived.Test.YtghigbohaifooaaOps
import Derived.Deep.RegionHeld3
namespace Go.Proofs.Ytghigbohaifooaa.Gates
set_option linter.unusedVariables false
set_option linter.unusedSimpArgs false
open Go.RowKit Go.Proofs.Ytghigbohaifooaa.PGatePlays Go.Proofs.YtghigbohaifooaaW.PrintWords

theorem make_run' (c : Int) (h : isNew c) (W : World) :
    (Instr.makeSlice 38 (.int .i64 c) (.int .i64 c)).run Try.prog W = .ok (.slice (some ⟨W.heap.size, 0, none⟩) (absG (newGt c)).length c.toNat) (W.alloc (.cells (madeCells #[.int .i64 0, .bool false] (c.toNat * 2)) 48)) := by
  rw [new_abs c h, List.length_replicate]
  exact make_run c h W

theorem At.below {u u' : World} {b : Nat} {k : Gt} (h : At u b k) (hb : Below u.heap.size u u') : At u' b k := (hb.block b (lt_of_block h)).trans h

/-- What holds all along: the call for the end, the program's gate, the reference's, and what was there. -/
structure PG (w : World) (kind core : Int) (k : Gt) (A : Option Addr) (cap : Nat) (u : World) : Prop where
  more : u.heap[w.heap.size]? = some (.cells #[.int .i64 kind, .int .i64 core] 28 (0, 0))
  at_ : At u (w.heap.size + 1) k
  sg : Sg u (w.heap.size + 2) (.slice A (absG k).length cap) (absG k)
  bel : Below w.heap.size w u

theorem PG.below {w : World} {kind core : Int} {k : Gt} {A : Option Addr} {cap : Nat} {u u' : World} (h : PG w kind core k A cap u) (hb : Below u.heap.size u u') : PG w kind core k A cap u' :=
  ⟨(hb.block _ (lt_of_block h.more)).trans h.more, h.at_.below hb, h.sg.below hb, h.bel.trans (hb.mono h.bel.size)⟩
theorem PG.step {w : World} {kind core : Int} {k k' : Gt} {A A' : Option Addr} {cap cap' : Nat} {u u' : World} (h : PG w kind core k A cap u) (hs : Sg u (w.heap.size + 2) (.slice A' (absG k').length cap') (absG k')) (hA : At u' (w.heap.size + 1) k') (hg : u.grownBy u' (some (w.heap.size + 1))) : PG w kind core k' A' cap' u' :=
  ⟨(hg.block _ (lt_of_block h.more) (by simp)).trans h.more, hA, hs.grownT h.at_ hg, below_grown h.bel hg h.bel.size (by omega)⟩

/-- What holds at the end. -/
structure EG (w : World) (b y B : Nat) (k k' : Gt) (A : Option Addr) (cap : Nat) (A' : Option Addr) (cap' : Nat) (u : World) : Prop where
  a0 : At u b k
  a1 : At u y k'
  r0 : Sg u B (.slice A (absG k).length cap) (absG k)
  r1 : Sg u B (.slice A' (absG k').length cap') (absG k')
  bel : Below w.heap.size w u
theorem EG.keep {w : World} {b y B : Nat} {k k' : Gt} {A : Option Addr} {cap : Nat} {A' : Option Addr} {cap' : Nat} {u u' : World} (h : EG w b y B k k' A cap A' cap' u) (hb : Below u.heap.size u u') : EG w b y B k k' A cap A' cap' u' :=
  ⟨h.a0.below hb, h.a1.below hb, h.r0.below hb, h.r1.below hb, h.bel.trans (hb.mono h.bel.size)⟩

theorem neq_ptr (b : Nat) (w : World) : (binOp .eql 24 (.pointer (some ⟨b, 0, none⟩)) (.pointer none)).run Try.prog w = .ok (.bool false) w := by kernel_rfl
theorem eq_nil (w : World) : (binOp .eql 24 (.pointer none) (.pointer none)).run Try.prog w = .ok (.bool true) w := by kernel_rfl

theorem has_q (k : Gt) (f : k.Fit) (c : Int) (A : Option Addr) (cap B : Nat) (w : World) (h : Sg w B (.slice A (absG k).length cap) (absG k)) :
    Calls Try.prog 20 #[.slice A (absG k).length cap, .int .i64 c] w fun e w' => e = .returned (.bool (decide (coreE k.cores c = 0))) ∧ ∃ m, w' = w.drewN m := by
  refine (switchyardref11_Has.calls A cap (absG k) c _ w h.c.2.2 h.c.2.1 (has_eq k f c)).mono ?_
  rintro e w' ⟨rfl, hd⟩
  exact ⟨rfl, hd.out⟩
theorem up_q (b : Nat) (c : Int) (k : Gt) (w : World) (h : At w b k) (ok : k.Ok) :
    Calls Try.prog 10 #[.pointer (some ⟨b, 0, none⟩), .int .i64 c] w fun e w' => e = .returned (.bool (upR k c)) ∧ w' = w :=
  (up_any b c k w h ok).mono fun _ _ h => ⟨h.1, h.2.symm⟩
theorem cell_next {w : World} {kind core : Int} {k : Gt} {A : Option Addr} {cap : Nat} {u u' : World} {p q : Addr} {x y : Value} (h : u.cell? p = some x ∧ u.cell? q = some y ∧ PG w kind core k A cap u) (hb : Below u.heap.size u u') :
    u'.cell? p = some x ∧ u'.cell? q = some y ∧ PG w kind core k A cap u' :=
  ⟨(hb.cell (World.block_lt_of_cell? u _ h.1)).trans h.1, (hb.cell (World.block_lt_of_cell? u _ h.2.1)).trans h.2.1, h.2.2.below hb⟩

set_option maxHeartbeats 4000000 in
set_option maxRecDepth 100000 in
theorem play_walk (c kind core : Int) (A : Option Addr) (len cap : Nat) (ops : List (List Int)) (w : World) (ho : Ops.OpsAt w w.heap.size 2 (.slice A len cap) ops) :
    Calls Try.prog 4 #[.int .i64 c, .slice A len cap, .agg #[.int .i64 kind, .int .i64 core]] w fun e w' => e = .returned (.bool true) ∧ Below w.heap.size w w' := by
  obtain ⟨A', len', cap', hv, hol, hlm, hall, hcells⟩ := ho
  injection hv with e1 e2 e3
  subst e1 e2 e3
  unfold maxLen at hlm
  have HALL := Lib.hid hall; clear hall
  have HOL := Lib.hid hol; clear hol
  have HC := Lib.hid hcells; clear hcells
  have heq := neq_ptr
  have heq2 := eq_nil
  have hB0 : Below w.heap.size w (w.alloc (.cells #[.int .i64 kind, .int .i64 core] 28)) := (Below.refl _ _).alloc (Nat.le_refl _) _
  by_cases h1 : 100 < len
  · go_enter Try.func4, Try.ntmps4
    go_wp2_with fail
    refine (alive_any _).mono ?_
    rintro e w' ⟨rfl, hBa⟩
    have hBt := hB0.trans (hBa.mono (by simp))
    clear hBa
    go_wp2_with fail
    go_ret
    exact ⟨rfl, hBt⟩
  · by_cases hn : isNew c
    · have f0 := new_fit hn
      have hmk := make_run' c hn
      have hmr := Lib.hid (make_row c hn)
      go_enter Try.func4, Try.ntmps4
      go_wp2_with fail
      refine (new_yes c _ hn).mono ?_
      rintro e w1 ⟨rfl, hA1, hB1, hs1⟩
      have hm1 : w1.heap[w.heap.size]? = some (.cells #[.int .i64 kind, .int .i64 core] 28 (0, 0)) := (hB1.block _ (by simp)).trans (heap_alloc_new w _)
      have hT1 := hB0.trans (hB1.mono (by simp))
      have hA1' : At w1 (w.heap.size + 1) (newGt c) := by simpa using hA1
      have hs1' : w.heap.size + 1 < w1.heap.size := by simpa using hs1
      clear hA1 hB1 hs1 hB0
      go_wp2_with fail
      refine (is_yes c hn _).mono ?_
      rintro e w2 ⟨rfl, hB2⟩
      have hm2 := (hB2.block _ (lt_of_block hm1)).trans hm1
      have hA2 := hA1'.below hB2
      have hT2 := hT1.trans (hB2.mono hT1.size)
      have hs2 : w.heap.size + 1 < w2.heap.size := by have := hB2.size; omega
      clear hm1 hA1' hT1 hB2 hs1'
      have P0 : PG w kind core (newGt c) (some ⟨w2.heap.size, 0, none⟩) c.toNat (w2.alloc (.cells (madeCells #[.int .i64 0, .bool false] (c.toNat * 2)) 48)) :=
        ⟨by rw [heap_alloc_old _ _ (lt_of_block hm2)]; exact hm2, hA2.alloc _, (hmr.out w2).lower (by omega), hT2.alloc hT2.size _⟩
      clear hm2 hA2 hT2
      have HP0 := Lib.hid P0; clear P0
      go_wp2_with fail
      go_loopw [44, 8] (fun j v wr => ∃ (m : Nat) (k : Gt) (Ak : Option Addr) (capk : Nat), m ≤ len ∧ j = .int .i64 m ∧ v = .slice Ak (absG k).length capk ∧ k.Fit ∧ k.cores = c ∧ PG w kind core k Ak capk wr)
        (fun j _ _ => len - (intOf j).toNat)
      case atStart => exact ⟨0, newGt c, _, _, by omega, rfl, rfl, f0, rfl, HP0.out⟩
      case round =>
        obtain ⟨m, k, Ak, capk, hm, rfl, rfl, f, hkc, hP⟩ := hrel
        clear HP0 f0 hmk hmr
        by_cases hlt : m < len
        · obtain ⟨b0, off, rfl, hb0, hcell⟩ := HC.out (by omega)
          have g0 := hcell m 0 hlt (by omega)
          have g1 := hcell m 1 hlt (by omega)
          clear hcell
          generalize (ops.getD m []).getD 0 0 = o0 at *
          generalize (ops.getD m []).getD 1 0 = o1 at *
          have q0 : wr.cell? ⟨b0, off + m * 2, none⟩ = some (.int .i64 o0) := (hP.bel.cell (p := ⟨b0, off + m * 2, none⟩) hb0).trans g0
          have q1 : wr.cell? ⟨b0, off + m * 2 + 1, none⟩ = some (.int .i64 o1) := (hP.bel.cell (p := ⟨b0, off + m * 2 + 1, none⟩) hb0).trans g1
          clear g0 g1
          have hbounds : m < 9223372036854775807 := by omega
          have hP1 := hP.below ((Below.refl wr.heap.size wr).alloc (Nat.le_refl _) (.cells #[.int .i64 o0, .int .i64 o1] 28))
          have hsz : w.heap.size + 2 ≤ wr.heap.size := by have := lt_of_block hP.at_; omega
          have HP1 := Lib.hid hP1; clear hP1
          clear hP
          obtain ⟨k', re, hd⟩ : ∃ k' re, doR k o0 o1 = (k', re) := ⟨_, _, rfl⟩
          have f' : k'.Fit := by have := doR_fit f o0 o1; rw [hd] at this; exact this
          have hc' : k'.cores = c := by have := doR_cores k o0 o1; rw [hd] at this; exact this.trans hkc
          have HD := Lib.hid hd; clear hd
          go_wp2_with fail
          refine (rdo_any HD.out f Ak capk (w.heap.size + 2) _ HP1.out.sg (by simp; omega)).mono ?_
          rintro e w2 ⟨A2, cap2, rfl, hS2, hB2⟩
          have hP2 := HP1.out.below hB2
          have k0 : w2.cell? ⟨wr.heap.size, 0, none⟩ = some (.int .i64 o0) := (hB2.cell (p := ⟨wr.heap.size, 0, none⟩) (by simp)).trans (by go_simp)
          have k1 : w2.cell? ⟨wr.heap.size, 1, none⟩ = some (.int .i64 o1) := (hB2.cell (p := ⟨wr.heap.size, 1, none⟩) (by simp)).trans (by go_simp)
          have HP2 := Lib.hid hP2; clear hP2 hB2
          have HS2 := Lib.hid hS2; clear hS2
          clear q0 q1
          go_wp2_with fail
          refine (do_any' HD.out f (w.heap.size + 1) _ HP2.out.at_).mono ?_
          rintro e w3 ⟨rfl, hA3, hG3⟩
          have HP3 := Lib.hid (HP2.out.step HS2.out hA3 hG3)
          clear hA3 hG3 k0 k1
          go_wp2_with fail
          refine (pdown_any (w.heap.size + 1) k' f' _ HP3.out.at_).mono ?_
          rintro e w4 ⟨A4, cap4, rfl, hc4, hC4, hB4⟩
          have HP4 := Lib.hid (HP3.out.below hB4)
          have HC4 := Lib.hid hC4; clear hC4 hB4
          go_wp2_with fail
          refine (rdown_any k' f' A2 cap2 (w.heap.size + 2) _ HP4.out.sg).mono ?_
          rintro e w5 ⟨A5, cap5, rfl, hc5, hC5, hB5⟩
          have HP5 := Lib.hid (HP4.out.below hB5)
          have HC45 := Lib.hid (Kd.C_below HC4.out hB5)
          have HC5 := Lib.hid hC5; clear hC5 hB5
          go_wp2_with fail
          refine (same_ll A4 cap4 A5 cap5 (downR k') _ hc4 hc5 HC45.out HC5.out (down_len k' f')).mono ?_
          rintro e w6 ⟨rfl, hB6⟩
          have HP6 := Lib.hid (HP5.out.below hB6)
          clear hB6
          go_wp2_with fail
          go_roundw
          case rel => exact ⟨m + 1, k', A2, cap2, by omega, by go_num, rfl, f', hc', HP6.out⟩
          case measure => simp [intOf]; omega
        · have hml : m = len := by omega
          subst hml
          go_wp2_with fail
          have hc1 := hn.1
          have hc8 := hn.2
          have HLEN := Lib.hid (show ((absG k).length : Int) = k.cores by rw [abs_len]; have := f.ok.c0; omega)
          have HKC := Lib.hid hkc; clear hkc
          go_loopw [13] (fun j wr => ∃ a : Int, -1 ≤ a ∧ a ≤ c + 1 ∧ j = .int .i64 a ∧ PG w kind core k Ak capk wr)
            (fun j _ => (c + 1 - intOf j).toNat)
          case atStart => exact ⟨-1, by omega, by omega, rfl, hP⟩
          case round =>
            obtain ⟨a, ha1, ha2, rfl, hP2⟩ := hrel
            clear hP
            by_cases hle : a ≤ c
            · by_cases hin : coreE k.cores a = 0
              · obtain ⟨a0, a1⟩ := core_in hin
                have hal : a < ((absG k).length : Int) := by have := HLEN.out; omega
                obtain ⟨ad, e, g0, g1⟩ := at_T48 hP2.sg.c.2.2 a a0 hal
                subst e
                rw [abs_at k a a0 a1] at g0 g1
                dsimp only at g0 g1
                by_cases hh : k.held.getD a.toNat false = true
                · rw [hh] at g1
                  have hup : upR k a = false := by unfold upR; rw [hin, hh]; rfl
                  have hx := has_q k f a (some ad) capk (w.heap.size + 2)
                  rw [decide_eq_true hin] at hx
                  have HX := Lib.hid hx; clear hx
                  have hu := fun u => up_q (w.heap.size + 1) a k u
                  rw [hup] at hu
                  have HU := Lib.hid hu; clear hu hup
                  have he : epR k a = k.eps.getD a.toNat 0 := by unfold epR; rw [if_pos hin]
                  have hep := epoch_any (w.heap.size + 1) a k _ hP2.at_ f.ok
                  rw [he, hin] at hep
                  have HEP := Lib.hid hep; clear hep he
                  generalize k.eps.getD a.toNat 0 = x at *
                  have HP2 := Lib.hid hP2; clear hP2
                  clear hin hh
                  go_wp2_with fail
                  refine HEP.out.mono ?_
                  rintro e w4 ⟨rfl, rfl⟩
                  go_wp2_with fail
                  go_quiet (first
                    | (go_at_call 20; refine Calls.quiet_of (HX.out _ (HP2.out.below (below_drewN (Below.refl _ _) _)).sg))
                    | (go_at_call 10; refine Calls.quiet_of_same (HU.out _ (HP2.out.below (below_drewN (Below.refl _ _) _)).at_ f.ok)))
                  have HP3 := Lib.hid (HP2.out.below (below_drewN (Below.refl wr.heap.size wr) nq))
                  clear g0 g1 HEP HX HU HP2

                  go_wp2_with fail
                  go_loopw [16] (fun j wr => ∃ d : Int, -1 ≤ d ∧ d ≤ c + 1 ∧ j = .int .i64 d ∧ PG w kind core k (some ad) capk wr)
                    (fun j _ => (c + 1 - intOf j).toNat)
                  case atStart => exact ⟨-1, by omega, by omega, rfl, HP3.out⟩
                  case round =>
                    obtain ⟨d, hd1, hd2, rfl, hP5⟩ := hrel
                    clear HP3
                    have hA5 := hP5.at_
                    have HP5 := Lib.hid hP5; clear hP5
                    by_cases hle2 : d ≤ c
                    · go_wp2_with fail
                      refine (link_any (w.heap.size + 1) a d k _ hA5 f.ok).mono ?_
                      rintro e w6 ⟨rfl, rfl⟩
                      go_wp2_with fail
                      refine (rlink_any k f a d (some ad) capk (w.heap.size + 2) _ HP5.out.sg).mono ?_
                      rintro e w7 ⟨rfl, hB7⟩
                      have HP7 := Lib.hid (HP5.out.below hB7)
                      clear hB7
                      go_wp2_with fail
                      go_roundw
                      case rel => exact ⟨d + 1, by omega, by omega, by go_num, HP7.out⟩
                      case measure => simp [intOf]; omega
                    · go_wp2_with fail
                      go_roundw
                      case rel => exact ⟨a + 1, by omega, by omega, by go_num, HP5.out⟩
                      case measure => simp [intOf]; omega
                · have hh : k.held.getD a.toNat false = false := by simpa using hh
                  rw [hh] at g1
                  have hup : upR k a = true := by unfold upR; rw [hin, hh]; rfl
                  have hx := has_q k f a (some ad) capk (w.heap.size + 2)
                  rw [decide_eq_true hin] at hx
                  have HX := Lib.hid hx; clear hx
                  have hu := fun u => up_q (w.heap.size + 1) a k u
                  rw [hup] at hu
                  have HU := Lib.hid hu; clear hu hup
                  have he : epR k a = k.eps.getD a.toNat 0 := by unfold epR; rw [if_pos hin]
                  have hep := epoch_any (w.heap.size + 1) a k _ hP2.at_ f.ok
                  rw [he, hin] at hep
                  have HEP := Lib.hid hep; clear hep he
                  generalize k.eps.getD a.toNat 0 = x at *
                  have HP2 := Lib.hid hP2; clear hP2
                  clear hin hh
                  go_wp2_with fail
                  refine HEP.out.mono ?_
                  rintro e w4 ⟨rfl, rfl⟩
                  go_wp2_with fail
                  go_quiet (first
                    | (go_at_call 20; refine Calls.quiet_of (HX.out _ (HP2.out.below (below_drewN (Below.refl _ _) _)).sg))
                    | (go_at_call 10; refine Calls.quiet_of_same (HU.out _ (HP2.out.below (below_drewN (Below.refl _ _) _)).at_ f.ok)))
                  have HP3 := Lib.hid (HP2.out.below (below_drewN (Below.refl wr.heap.size wr) nq))
                  clear g0 g1 HEP HX HU HP2

                  go_wp2_with fail
                  go_loopw [16] (fun j wr => ∃ d : Int, -1 ≤ d ∧ d ≤ c + 1 ∧ j = .int .i64 d ∧ PG w kind core k (some ad) capk wr)
                    (fun j _ => (c + 1 - intOf j).toNat)
                  case atStart => exact ⟨-1, by omega, by omega, rfl, HP3.out⟩
                  case round =>
                    obtain ⟨d, hd1, hd2, rfl, hP5⟩ := hrel
                    clear HP3
                    have hA5 := hP5.at_
                    have HP5 := Lib.hid hP5; clear hP5
                    by_cases hle2 : d ≤ c
                    · go_wp2_with fail
                      refine (link_any (w.heap.size + 1) a d k _ hA5 f.ok).mono ?_
                      rintro e w6 ⟨rfl, rfl⟩
                      go_wp2_with fail
                      refine (rlink_any k f a d (some ad) capk (w.heap.size + 2) _ HP5.out.sg).mono ?_
                      rintro e w7 ⟨rfl, hB7⟩
                      have HP7 := Lib.hid (HP5.out.below hB7)
                      clear hB7
                      go_wp2_with fail
                      go_roundw
                      case rel => exact ⟨d + 1, by omega, by omega, by go_num, HP7.out⟩
                      case measure => simp [intOf]; omega
                    · go_wp2_with fail
                      go_roundw
                      case rel => exact ⟨a + 1, by omega, by omega, by go_num, HP5.out⟩
                      case measure => simp [intOf]; omega
              · have hup : upR k a = false := by unfold upR; rw [decide_eq_false hin]; rfl
                have hx := has_q k f a Ak capk (w.heap.size + 2)
                rw [decide_eq_false hin] at hx
                have HX := Lib.hid hx; clear hx
                have hu := fun u => up_q (w.heap.size + 1) a k u
                rw [hup] at hu
                have HU := Lib.hid hu; clear hu hup
                have he : epR k a = 0 := by unfold epR; rw [if_neg hin]
                have hc3 : coreE k.cores a = 3 := core_no (fun q => hin (core_yes q.1 q.2))
                have hep := epoch_any (w.heap.size + 1) a k _ hP2.at_ f.ok
                rw [he, hc3] at hep
                have HEP := Lib.hid hep; clear hep he hc3
                have HP2 := Lib.hid hP2; clear hP2
                clear hin
                go_wp2_with fail
                refine HEP.out.mono ?_
                rintro e w4 ⟨rfl, rfl⟩
                go_wp2_with fail
                go_quiet (first
                  | (go_at_call 20; refine Calls.quiet_of (HX.out _ (HP2.out.below (below_drewN (Below.refl _ _) _)).sg))
                  | (go_at_call 10; refine Calls.quiet_of_same (HU.out _ (HP2.out.below (below_drewN (Below.refl _ _) _)).at_ f.ok)))
                have HP3 := Lib.hid (HP2.out.below (below_drewN (Below.refl wr.heap.size wr) nq))
                clear HEP HX HU HP2

                go_wp2_with fail
                go_loopw [16] (fun j wr => ∃ d : Int, -1 ≤ d ∧ d ≤ c + 1 ∧ j = .int .i64 d ∧ PG w kind core k Ak capk wr)
                  (fun j _ => (c + 1 - intOf j).toNat)
                case atStart => exact ⟨-1, by omega, by omega, rfl, HP3.out⟩
                case round =>
                  obtain ⟨d, hd1, hd2, rfl, hP5⟩ := hrel
                  clear HP3
                  have hA5 := hP5.at_
                  have HP5 := Lib.hid hP5; clear hP5
                  by_cases hle2 : d ≤ c
                  · go_wp2_with fail
                    refine (link_any (w.heap.size + 1) a d k _ hA5 f.ok).mono ?_
                    rintro e w6 ⟨rfl, rfl⟩
                    go_wp2_with fail
                    refine (rlink_any k f a d Ak capk (w.heap.size + 2) _ HP5.out.sg).mono ?_
                    rintro e w7 ⟨rfl, hB7⟩
                    have HP7 := Lib.hid (HP5.out.below hB7)
                    clear hB7
                    go_wp2_with fail
                    go_roundw
                    case rel => exact ⟨d + 1, by omega, by omega, by go_num, HP7.out⟩
                    case measure => simp [intOf]; omega
                  · go_wp2_with fail
                    go_roundw
                    case rel => exact ⟨a + 1, by omega, by omega, by go_num, HP5.out⟩
                    case measure => simp [intOf]; omega
            · have hA3 := hP2.at_
              have hsz : w.heap.size + 2 ≤ wr.heap.size := by have := lt_of_block hP2.at_; omega
              have hsk : sameG k k = true := by simp [sameG]
              have HP2 := Lib.hid hP2; clear hP2
              obtain ⟨k', re, hd⟩ : ∃ k' re, doR k kind core = (k', re) := ⟨_, _, rfl⟩
              have f' : k'.Fit := by have := doR_fit f kind core; rw [hd] at this; exact this
              have hc' : k'.cores = k.cores := by have := doR_cores k kind core; rw [hd] at this; exact this
              have HC' := Lib.hid hc'; clear hc'
              have HD := Lib.hid hd; clear hd
              obtain ⟨q, hq⟩ : ∃ q, sameG k k' = q := ⟨_, rfl⟩
              have HQ := Lib.hid hq; clear hq
              go_wp2_with fail
              refine (clone_any (w.heap.size + 1) k _ hA3 f.ok).mono ?_
              rintro e w4 ⟨rfl, hA4, hB4, hs4⟩
              have HP4 := Lib.hid (HP2.out.below hB4)
              clear hB4 hA3
              go_wp2_with fail
              refine (same_any (w.heap.size + 1) wr.heap.size k k _ HP4.out.at_ hA4 f.ok f.ok).mono ?_
              rintro e w5 ⟨rfl, hB5⟩
              rw [hsk]
              have hA5 := hA4.below hB5
              have hP5 := HP4.out.below hB5
              have hs5 : wr.heap.size < w5.heap.size := by have := hB5.size; omega
              have m0 : w5.cell? ⟨w.heap.size, 0, none⟩ = some (.int .i64 kind) := (blk_cell hP5.more 0).trans rfl
              have m1 : w5.cell? ⟨w.heap.size, 1, none⟩ = some (.int .i64 core) := (blk_cell hP5.more 1).trans rfl
              have HP5 := Lib.hid hP5; clear hP5
              clear hA4 hB5
              go_wp2_with fail
              refine (rdo_any HD.out f Ak capk (w.heap.size + 2) _ HP5.out.sg (by omega)).mono ?_
              rintro e w6 ⟨A2, cap2, rfl, hS6, hB6⟩
              have hP6 := HP5.out.below hB6
              have hA6 := hA5.below hB6
              have hs6 : wr.heap.size < w6.heap.size := by have := hB6.size; omega
              have n0 : w6.cell? ⟨w.heap.size, 0, none⟩ = some (.int .i64 kind) := (blk_cell hP6.more 0).trans rfl
              have n1 : w6.cell? ⟨w.heap.size, 1, none⟩ = some (.int .i64 core) := (blk_cell hP6.more 1).trans rfl
              have HP6 := Lib.hid hP6; clear hP6
              have HS6 := Lib.hid hS6; clear hS6
              clear hB6 hA5 m0 m1
              go_wp2_with fail
              refine (do_any' HD.out f wr.heap.size _ hA6).mono ?_
              rintro e w7 ⟨rfl, hA7, hG7⟩
              have hE : EG w (w.heap.size + 1) wr.heap.size (w.heap.size + 2) k k' Ak capk A2 cap2 w7 :=
                ⟨(hG7.block _ (lt_of_block HP6.out.at_) (by simp; omega)).trans HP6.out.at_, hA7, HP6.out.sg.grownT hA6 hG7, HS6.out.grownT hA6 hG7, below_grown HP6.out.bel hG7 HP6.out.bel.size (by omega)⟩
              have HE7 := Lib.hid hE; clear hE
              clear hA7 hG7 hA6 n0 n1
              go_wp2_with fail
              refine (same_any (w.heap.size + 1) wr.heap.size k k' _ HE7.out.a0 HE7.out.a1 f.ok f'.ok).mono ?_
              rintro e w8 ⟨rfl, hB8⟩
              rw [HQ.out]
              have HE8 := Lib.hid (HE7.out.keep hB8)
              clear hB8
              go_wp2_with fail
              refine (rsame_any k k' f f' HC'.out Ak capk A2 cap2 (w.heap.size + 2) _ HE8.out.r0 HE8.out.r1).mono ?_
              rintro e w9 ⟨rfl, hB9⟩
              rw [HQ.out]
              have HE9 := Lib.hid (HE8.out.keep hB9)
              clear hB9
              go_wp2_with fail
              refine (pdown_any wr.heap.size k' f' _ HE9.out.a1).mono ?_
              rintro e w10 ⟨A10, cap10, rfl, hc10, hC10, hB10⟩
              have HE10 := Lib.hid (HE9.out.keep hB10)
              have HC10 := Lib.hid hC10; clear hC10 hB10
              go_wp2_with fail
              refine (rdown_any k' f' A2 cap2 (w.heap.size + 2) _ HE10.out.r1).mono ?_
              rintro e w11 ⟨A11, cap11, rfl, hc11, hC11, hB11⟩
              have HE11 := Lib.hid (HE10.out.keep hB11)
              have HC101 := Lib.hid (Kd.C_below HC10.out hB11)
              have HC11 := Lib.hid hC11; clear hC11 hB11
              go_wp2_with fail
              refine (same_ll A10 cap10 A11 cap11 (downR k') _ hc10 hc11 HC101.out HC11.out (down_len k' f')).mono ?_
              rintro e w12 ⟨rfl, hB12⟩
              have HE12 := Lib.hid (HE11.out.keep hB12)
              clear hB12
              go_wp2_with fail
              refine (pdown_any (w.heap.size + 1) k f _ HE12.out.a0).mono ?_
              rintro e w13 ⟨A13, cap13, rfl, hc13, hC13, hB13⟩
              have HE13 := Lib.hid (HE12.out.keep hB13)
              have HC13 := Lib.hid hC13; clear hC13 hB13
              go_wp2_with fail
              refine (rdown_any k f Ak capk (w.heap.size + 2) _ HE13.out.r0).mono ?_
              rintro e w14 ⟨A14, cap14, rfl, hc14, hC14, hB14⟩
              have HE14 := Lib.hid (HE13.out.keep hB14)
              have HC134 := Lib.hid (Kd.C_below HC13.out hB14)
              have HC14 := Lib.hid hC14; clear hC14 hB14
              go_wp2_with fail
              refine (same_ll A13 cap13 A14 cap14 (downR k) _ hc13 hc14 HC134.out HC14.out (down_len k f)).mono ?_
              rintro e w15 ⟨rfl, hB15⟩
              have HE15 := Lib.hid (HE14.out.keep hB15)
              clear hB15
              go_wp2_with fail
              refine (alive_any _).mono ?_
              rintro e w16 ⟨rfl, hB16⟩
              have hBt := (HE15.out.keep hB16).bel
              clear hB16
              go_wp2_with fail
              go_ret
              exact ⟨rfl, hBt⟩
    · go_enter Try.func4, Try.ntmps4
      go_wp2_with fail
      refine (new_no c _ hn).mono ?_
      rintro e w1 ⟨rfl, rfl⟩
      go_wp2_with fail
      refine (is_no c hn _).mono ?_
      rintro e w1 ⟨rfl, hB1⟩
      have hB1' := hB0.trans (hB1.mono (by simp))
      clear hB1
      go_wp2_with fail
      refine (alive_any _).mono ?_
      rintro e w' ⟨rfl, hBa⟩
      have hBt := hB1'.trans (hBa.mono hB1'.size)
      clear hBa
      go_wp2_with fail
      go_ret
      exact ⟨rfl, hBt⟩

end Go.Proofs.Ytghigbohaifooaa.Gates
