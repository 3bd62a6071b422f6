/- Locks: the contract of the law's own 'like'. -/
import Derived.Test.YtloifnnofldgmaaPlayRef7
import Derived.Test.YtloifnnofldgmaaOne
import Derived.Deep.RegionHeld3
namespace Go.Proofs.Ytloifnnofldgmaa.Locks
set_option linter.unusedVariables false
set_option linter.unusedSimpArgs false
open Go.RowKit Go.Proofs.Ytloifnnofldgmaa.PLocksPlay Go.Proofs.YtloifnnofldgmaaW.PrintWords

/-- What holds all along. -/
structure Lk (w : World) (b : Nat) (k : Bk) (B : Nat) (A : Option Addr) (cap x : Nat) (u : World) : Prop where
  box : u.heap[x]? = some (.cells #[.int .i64 k.cores, .slice A (abs k).length cap] 38 (0, 0))
  at_ : At u b k
  sl : Sl u B (.slice A (abs k).length cap) (abs k)
  bel : Below w.heap.size w u
abbrev LkS (w : World) (b : Nat) (k : Bk) (B : Nat) (A : Option Addr) (cap x : Nat) (u : World) : Prop :=
  u.cell? ⟨x, 0, none⟩ = some (.int .i64 k.cores) ∧ u.cell? ⟨x, 1, none⟩ = some (.slice A (abs k).length cap) ∧ Lk w b k B A cap x u

theorem Lk.keep {w : World} {b : Nat} {k : Bk} {B : Nat} {A : Option Addr} {cap x : Nat} {u u' : World} (h : Lk w b k B A cap x u) (hb : Below u.heap.size u u') : Lk w b k B A cap x u' :=
  ⟨(hb.block x (lt_of_block h.box)).trans h.box, (hb.block b (lt_of_block h.at_)).trans h.at_, h.sl.below hb, h.bel.trans (hb.mono h.bel.size)⟩
theorem Lk.all {w : World} {b : Nat} {k : Bk} {B : Nat} {A : Option Addr} {cap x : Nat} {u : World} (h : Lk w b k B A cap x u) :
    u.cell? ⟨x, 0, none⟩ = some (.int .i64 k.cores) ∧ u.cell? ⟨x, 1, none⟩ = some (.slice A (abs k).length cap) ∧ Lk w b k B A cap x u :=
  ⟨(blk_cell h.box 0).trans rfl, (blk_cell h.box 1).trans rfl, h⟩
theorem Lk.next {w : World} {b : Nat} {k : Bk} {B : Nat} {A : Option Addr} {cap x : Nat} {u u' : World}
    (h : u.cell? ⟨x, 0, none⟩ = some (.int .i64 k.cores) ∧ u.cell? ⟨x, 1, none⟩ = some (.slice A (abs k).length cap) ∧ Lk w b k B A cap x u) (hb : Below u.heap.size u u') :
    u'.cell? ⟨x, 0, none⟩ = some (.int .i64 k.cores) ∧ u'.cell? ⟨x, 1, none⟩ = some (.slice A (abs k).length cap) ∧ Lk w b k B A cap x u' := (h.2.2.keep hb).all

theorem Sl.c {w : World} {B : Nat} {A : Option Addr} {n c : Nat} {l : List Int} (h : Sl w B (.slice A n c) l) : Kd.C (Kd.int .i64) w A l.length l := (Kd.R_reads' h).2.2

theorem held_len (k : Bk) (c : Int) : (heldR k c).length < 999 := by
  unfold heldR
  split
  · have := heldTo_len k.own c 16; omega
  · simp

theorem held_prog (b : Nat) (c : Int) (k : Bk) (f : k.Fit) (w : World) (h : At w b k) :
    Calls Try.prog 18 #[.pointer (some ⟨b, 0, none⟩), .int .i64 c] w fun e w' => ∃ A cap, e = .returned (.slice A (heldR k c).length cap) ∧ (heldR k c).length ≤ cap ∧ Kd.C (Kd.int .i64) w' A (heldR k c).length (heldR k c) ∧ Below w.heap.size w w' := by
  refine (held_any b c k w h f.ok).mono ?_
  rintro e w' ⟨v, rfl, ho, hb⟩
  obtain ⟨A, cap, rfl, hc, hr⟩ := own_reads_of_le (enc := Value.int .i64) (d := (0 : Int)) ho
  exact ⟨A, cap, rfl, hc, Kd.C_of_reads hr, hb⟩

theorem held_ref (k : Bk) (f : k.Fit) (c : Int) (A : Option Addr) (cap : Nat) (hcap : (abs k).length ≤ cap) (w : World) (h : Kd.C (Kd.int .i64) w A (abs k).length (abs k)) :
    Calls Try.prog 23 #[.agg #[.int .i64 k.cores, .slice A (abs k).length cap], .int .i64 c] w fun e w' => ∃ A cap, e = .returned (.slice A (heldR k c).length cap) ∧ (heldR k c).length ≤ cap ∧ Kd.C (Kd.int .i64) w' A (heldR k c).length (heldR k c) ∧ Below w.heap.size w w' := by
  refine (switchyardref10_Held.calls 20 k.cores A cap (abs k) c (heldR k c) w h hcap (held_eq k f c 20 (by omega))).mono ?_
  rintro e w' ⟨v, rfl, ho, hb⟩
  obtain ⟨A, cap, rfl, hc, hr⟩ := Kd.R_reads ho
  exact ⟨A, cap, rfl, hc, hr, hb⟩

theorem same_ll (A1 : Option Addr) (c1 : Nat) (A2 : Option Addr) (c2 : Nat) (l : List Int) (w : World) (h1 : l.length ≤ c1) (h2 : l.length ≤ c2) (hC1 : Kd.C (Kd.int .i64) w A1 l.length l) (hC2 : Kd.C (Kd.int .i64) w A2 l.length l) (hl : l.length < 999) :
    Calls Try.prog 17 #[.slice A1 l.length c1, .slice A2 l.length c2] w fun e w' => e = .returned (.bool true) ∧ Below w.heap.size w w' := by
  refine (switchyardref03_Same.calls 1000 A1 c1 l A2 c2 l true w hC1 h1 hC2 h2 (by rw [same_eq l l 1000 (by omega) (by omega)]; simp)).mono ?_
  rintro e w' ⟨rfl, hd⟩
  exact ⟨rfl, hd.below⟩

set_option maxHeartbeats 2000000 in
theorem like_any (b : Nat) (k : Bk) (f : k.Fit) (v : Value) (B : Nat) (w : World) (hA : At w b k) (hs : Sl w B v (abs k)) :
    Calls Try.prog 14 #[.pointer (some ⟨b, 0, none⟩), .agg #[.int .i64 k.cores, v]] w fun e w' => e = .returned (.bool true) ∧ Below w.heap.size w w' := by
  obtain ⟨A, cap, rfl, hcap, hC⟩ := hs.open_
  have hl := abs_len k
  have hn0 := f.ok.n0
  have hn1 := f.ok.n1
  have hlk : ((abs k).length : Int) = k.n := by omega
  have hL0 : Lk w b k B A cap w.heap.size (w.alloc (.cells #[.int .i64 k.cores, .slice A (abs k).length cap] 38)) :=
    ⟨heap_alloc_new _ _, hA.alloc _, hs.below ((Below.refl _ _).alloc (Nat.le_refl _) _), (Below.refl _ _).alloc (Nat.le_refl _) _⟩
  have hn := hL0.at_.n
  have HL0 := Lib.hid hL0; clear hL0
  have HLK := Lib.hid hlk; clear hlk hl
  have hbn : (k.n != ((abs k).length : Int)) = false := by rw [HLK.out]; simp
  go_enter Try.func14, Try.ntmps14
  go_wp2_with fail
  go_region_held3 (LkS w b k B A cap w.heap.size)
    (first | exact HL0.out.all | exact (HL0.out.keep (Below.refl _ _).drew).all | exact Lk.next (by assumption) (by assumption))
    (first | (go_at_call 7; refine (len_any b k.n _ (Lk.at_ (And.right (And.right (by assumption)))).n).mono ?_; rintro e w' ⟨rfl, rfl⟩))
  rename_i hH
  have hH1 := hH.2.2
  clear hH hn
  go_wp2_with fail
  go_loopw [19] (fun j wr => ∃ m : Nat, m ≤ (abs k).length ∧ j = .int .i64 m ∧ Lk w b k B A cap w.heap.size wr)
    (fun j _ => (abs k).length - (intOf j).toNat)
  case atStart => exact ⟨0, by omega, rfl, hH1⟩
  case round =>
    obtain ⟨m, hm, rfl, hLk⟩ := hrel
    clear hH1
    by_cases hlt : m < (abs k).length
    · have hmn : (m : Int) < k.n := by have := HLK.out; omega
      obtain ⟨ad, rfl, hcell⟩ := hLk.sl.at_ (m : Int) (by omega) (by omega)
      rw [rd_abs k _ (by omega) hmn, Int.toNat_natCast] at hcell
      have HO := Lib.hid (owner_in (k := k) (m := m) (o := k.own.getD m 0 - 1) hmn (by omega))
      have HE := Lib.hid (lock_in (k := k) (m := m) hmn)
      have hA2 := hLk.at_
      have HLk := Lib.hid hLk; clear hLk
      generalize k.own.getD m 0 - 1 = x at *
      have hm0 : (0 : Int) ≤ (m : Int) := by omega
      have hm1 : (m : Int) < ((abs k).length : Int) := by omega
      have hm63 : m < 9223372036854775807 := by have := HLK.out; omega
      go_wp2_with fail
      refine (owner_any b (m : Int) k _ hA2 f.ok).mono ?_
      rintro e w2 ⟨rfl, rfl⟩
      rw [HO.out, HE.out]
      go_wp2_with fail
      go_roundw
      case rel => exact ⟨m + 1, by omega, by go_num, HLk.out⟩
      case measure => simp [intOf]; omega
    · have hml : m = (abs k).length := by omega
      subst hml
      have hbox := hLk.all
      go_wp2_with fail
      go_loopw [9] (fun j wr => ∃ c : Int, -1 ≤ c ∧ c ≤ k.cores + 1 ∧ j = .int .i64 c ∧ Lk w b k B A cap w.heap.size wr)
        (fun j _ => (k.cores + 1 - intOf j).toNat)
      case atStart => exact ⟨-1, by omega, by have := f.ok.c0; omega, rfl, hLk⟩
      case round =>
        obtain ⟨c, hc1, hc2, rfl, hLk2⟩ := hrel
        have hc8 := f.ok.c1
        have hS2 := hLk2.all
        by_cases hle : c ≤ k.cores
        · have HL2 := Lib.hid hLk2; clear hLk2 hLk hbox
          have HHE := Lib.hid (held_eq k f c 20 (by omega))
          go_wp2_with fail
          go_region_held3 (LkS w b k B A cap w.heap.size)
            (first | exact HL2.out.all | exact (HL2.out.keep (Below.refl _ _).drew).all | exact Lk.next (by assumption) (by assumption))
            (first
              | (go_at_call 18; refine (held_prog b c k f _ (Lk.at_ (And.right (And.right (by assumption))))).mono ?_; rintro e u1 ⟨A1, cap1, rfl, hcap1, hC1, hb1⟩)
              | (go_at_call 23; refine (held_ref k f c A cap hcap _ (Sl.c (Lk.sl (And.right (And.right (by assumption)))))).mono ?_; rintro e u2 ⟨A2, cap2, rfl, hcap2, hC2, hb2⟩)
              | (go_at_call 17; first | (refine (same_ll A1 cap1 A2 cap2 (heldR k c) _ hcap1 hcap2 (Kd.C_below hC1 hb2) hC2 (held_len k c)).mono ?_; rintro e u3 ⟨rfl, hb3⟩) | (refine (same_ll A1 cap1 A2 cap2 (heldR k c) _ hcap1 hcap2 hC1 (Kd.C_below hC2 hb1) (held_len k c)).mono ?_; rintro e u3 ⟨rfl, hb3⟩)))
          rename_i hH
          have HH := Lib.hid hH.2.2
          clear hH
          go_wp2_with fail
          go_roundw
          case rel => exact ⟨c + 1, by omega, by omega, by go_num, HH.out⟩
          case measure => simp [intOf]; omega
        · have hBt := hLk2.bel
          go_wp2_with fail
          go_ret
          exact ⟨rfl, hBt⟩

end Go.Proofs.Ytloifnnofldgmaa.Locks
