/- LocksPlay: the walk of the law: whatever the numbers and the calls, it comes to true, and what was there in memory is as it was. -/
import Derived.Test.YtloifnnofldgmaaPlayWalk
import Derived.Deep.RegionHeld3
namespace Go.Proofs.Ytloifnnofldgmaa.Locks
set_option linter.unusedVariables false
set_option linter.unusedSimpArgs false
open Go.RowKit Go.Proofs.Ytloifnnofldgmaa.PLocksPlay Go.Proofs.YtloifnnofldgmaaW.PrintWords

/-- What holds all along: the call for the end, the program's bank, the reference's, and what was there. -/
structure PI (w : World) (x : Nat) (kind core i : Int) (kp kr : Bk) (A : Option Addr) (cap : Nat) (u : World) : Prop where
  more : u.heap[w.heap.size]? = some (.cells #[.int .i64 kind, .int .i64 core, .int .i64 i] 28 (0, 0))
  at_ : At u (w.heap.size + 1) kp
  rb : Rb u x (w.heap.size + 2) kr A cap
  bel : Below w.heap.size w u
  hx : w.heap.size + 2 ≤ x

theorem PI.below {w : World} {x : Nat} {kind core i : Int} {kp kr : Bk} {A : Option Addr} {cap : Nat} {u u' : World} (h : PI w x kind core i kp kr A cap u) (hb : Below u.heap.size u u') : PI w x kind core i kp kr A cap u' :=
  ⟨(hb.block _ (lt_of_block h.more)).trans h.more, h.at_.below hb, h.rb.below hb, h.bel.trans (hb.mono h.bel.size), h.hx⟩

theorem PI.put {w : World} {x : Nat} {kind core i : Int} {kp kr : Bk} {A : Option Addr} {cap : Nat} {u : World} (h2 : PI w x kind core i kp kr A cap u) (k' : Bk) (A' : Option Addr) (cap' : Nat)
    (hs2 : Sl u (w.heap.size + 2) (.slice A' (abs k').length cap') (abs k')) {c0 : Int} (hc : k'.cores = c0) :
    PI w x kind core i kp k' A' cap' ((u.setCell ⟨x, 0, none⟩ (.int .i64 c0)).setCell ⟨x, 1, none⟩ (.slice A' (abs k').length cap')) := by
  have hx := h2.hx
  have far : ∀ (k : Nat) (ob : Obj), k ≠ x → u.heap[k]? = some ob → ((u.setCell ⟨x, 0, none⟩ (.int .i64 c0)).setCell ⟨x, 1, none⟩ (.slice A' (abs k').length cap')).heap[k]? = some ob := fun k ob hk ho => by
    rw [Below.heap_setCell _ _ _ _ (by show k ≠ x; exact hk), Below.heap_setCell _ _ _ _ (by show k ≠ x; exact hk)]
    exact ho
  refine ⟨far _ _ (by omega) h2.more, far _ _ (by omega) h2.at_, ⟨?_, ?_⟩, (h2.bel.setCell (by show _ ≤ x; omega) _).setCell (by show _ ≤ x; omega) _, hx⟩
  · rw [hc]
    exact two_put _ _ h2.rb.box
  · exact (hs2.set ⟨x, 0, none⟩ _ ⟨_, _, h2.rb.box, by decide⟩).set ⟨x, 1, none⟩ _ ⟨_, _, blk_put h2.rb.box 0 _ rfl, by decide⟩

theorem PI.do_ {w : World} {x : Nat} {kind core i : Int} {kp kr k' : Bk} {A : Option Addr} {cap : Nat} {u u' : World} (h : PI w x kind core i kp kr A cap u) (hA : At u' (w.heap.size + 1) k') (hg : u.grownBy u' (some (w.heap.size + 1))) : PI w x kind core i k' kr A cap u' := by
  have hx := h.hx
  exact ⟨(hg.block _ (lt_of_block h.more) (by simp)).trans h.more, hA, h.rb.grown hg (by omega) (by omega), below_grown h.bel hg h.bel.size (by omega), hx⟩

theorem ref_do' {k k' : Bk} {kind c i rx re : Int} (hd : doR k kind c i = (k', rx, re)) {c0 : Int} (hc0 : k.cores = c0) (f : k.Fit) (x B : Nat) (A : Option Addr) (cap : Nat) (w : World) (h : Rb w x B k A cap) (hB : B ≤ w.heap.size) :
    Calls Try.prog 13 #[.agg #[.int .i64 c0, .slice A (abs k).length cap], .agg #[.int .i64 kind, .int .i64 c, .int .i64 i]] w fun e w' => ∃ A' cap', e = .returned (.tuple #[.agg #[.int .i64 c0, .slice A' (abs k').length cap'], .int .i64 rx, .int .i64 re]) ∧ Sl w' B (.slice A' (abs k').length cap') (abs k') ∧ Below w.heap.size w w' := by
  have := ref_do k f kind c i x B A cap w h hB
  rw [hd, hc0] at this
  exact this
theorem do_any' {k k' : Bk} {kind c i rx re : Int} (hd : doR k kind c i = (k', rx, re)) (f : k.Fit) (b : Nat) (w : World) (h : At w b k) :
    Calls Try.prog 9 #[.pointer (some ⟨b, 0, none⟩), .agg #[.int .i64 kind, .int .i64 c, .int .i64 i]] w fun e w' => e = .returned (.tuple #[.int .i64 rx, .int .i64 re]) ∧ At w' b k' ∧ w.grownBy w' (some b) := by
  have := do_any b kind c i k w h f.ok
  rw [hd] at this
  exact this

theorem like_any' {k : Bk} {c0 : Int} (hc0 : k.cores = c0) (b : Nat) (f : k.Fit) (x B : Nat) (A : Option Addr) (cap : Nat) (w : World) (hA : At w b k) (hs : Rb w x B k A cap) :
    Calls Try.prog 14 #[.pointer (some ⟨b, 0, none⟩), .agg #[.int .i64 c0, .slice A (abs k).length cap]] w fun e w' => e = .returned (.bool true) ∧ Below w.heap.size w w' := by
  rw [← hc0]
  exact like_any b k f _ B w hA hs.sl

theorem Sl.grownT {w w' : World} {B y : Nat} {v : Value} {l : List Int} {cs : Array Value} {t : TypeId} (h : Sl w B v l) (hy : w.heap[y]? = some (.cells cs t (0, 0))) (ht : t ≠ 3) (hg : w.grownBy w' (some y)) : Sl w' B v l := by
  have h1 := Kd.R_mono (ok' := fun k => k ≠ y) (Kd.R_bound h) (fun k hk => by
    obtain ⟨-, -, -, q, hq, cells, hcell⟩ := hk
    rintro rfl
    rw [hy] at hcell
    injection hcell with hcell
    injection hcell with _ h2 _
    have : q = 3 := by simpa [Kd.int, Kd.scalar] using hq
    exact ht (h2.trans this))
  exact Kd.R_mono (Kd.R_grown h1 hg (fun k hk => by simpa using hk)) (fun _ _ => trivial)
theorem Rb.grownT {u u' : World} {x B y : Nat} {k k2 : Bk} {A : Option Addr} {cap : Nat} (h : Rb u x B k A cap) (hA : At u y k2) (hg : u.grownBy u' (some y)) : Rb u' x B k A cap := by
  have hne : x ≠ y := by
    rintro rfl
    have h1 := h.box
    rw [show u.heap[x]? = _ from hA] at h1
    injection h1 with h1
    injection h1 with _ h2 _
    exact absurd h2 (by decide)
  exact ⟨(hg.block x (lt_of_block h.box) (by simpa using hne)).trans h.box, h.sl.grownT hA (by decide) hg⟩

/-- What holds at the end. -/
structure EI (w : World) (b y x z B : Nat) (k k' : Bk) (A : Option Addr) (cap : Nat) (A' : Option Addr) (cap' : Nat) (u : World) : Prop where
  a0 : At u b k
  a1 : At u y k'
  r0 : Rb u x B k A cap
  r1 : Rb u z B k' A' cap'
  bel : Below w.heap.size w u
theorem EI.keep {w : World} {b y x z B : Nat} {k k' : Bk} {A : Option Addr} {cap : Nat} {A' : Option Addr} {cap' : Nat} {u u' : World} (h : EI w b y x z B k k' A cap A' cap' u) (hb : Below u.heap.size u u') : EI w b y x z B k k' A cap A' cap' u' :=
  ⟨h.a0.below hb, h.a1.below hb, h.r0.below hb, h.r1.below hb, h.bel.trans (hb.mono h.bel.size)⟩
abbrev EIS (w : World) (b y x z B : Nat) (c : Int) (k k' : Bk) (A : Option Addr) (cap : Nat) (A' : Option Addr) (cap' : Nat) (u : World) : Prop :=
  u.cell? ⟨x, 0, none⟩ = some (.int .i64 c) ∧ u.cell? ⟨x, 1, none⟩ = some (.slice A (abs k).length cap) ∧ u.cell? ⟨z, 0, none⟩ = some (.int .i64 c) ∧ u.cell? ⟨z, 1, none⟩ = some (.slice A' (abs k').length cap') ∧ (k.cores = c ∧ k'.cores = c) ∧ EI w b y x z B k k' A cap A' cap' u
theorem EI.all {w : World} {b y x z B : Nat} {c : Int} {k k' : Bk} {A : Option Addr} {cap : Nat} {A' : Option Addr} {cap' : Nat} {u : World} (h : EI w b y x z B k k' A cap A' cap' u) (hc : k.cores = c ∧ k'.cores = c) : EIS w b y x z B c k k' A cap A' cap' u := by
  have x0 := h.r0.c0
  have z0 := h.r1.c0
  rw [hc.1] at x0
  rw [hc.2] at z0
  exact ⟨x0, h.r0.c1, z0, h.r1.c1, hc, h⟩
theorem EI.next {w : World} {b y x z B : Nat} {c : Int} {k k' : Bk} {A : Option Addr} {cap : Nat} {A' : Option Addr} {cap' : Nat} {u u' : World} (h : EIS w b y x z B c k k' A cap A' cap' u) (hb : Below u.heap.size u u') : EIS w b y x z B c k k' A cap A' cap' u' := (h.2.2.2.2.2.keep hb).all h.2.2.2.2.1
theorem EIS.ei {w : World} {b y x z B : Nat} {c : Int} {k k' : Bk} {A : Option Addr} {cap : Nat} {A' : Option Addr} {cap' : Nat} {u : World} (h : EIS w b y x z B c k k' A cap A' cap' u) : EI w b y x z B k k' A cap A' cap' u := h.2.2.2.2.2

theorem like_at {w : World} {b y x z B : Nat} {c : Int} {k k' : Bk} {A : Option Addr} {cap : Nat} {A' : Option Addr} {cap' : Nat} {u : World} (h : EIS w b y x z B c k k' A cap A' cap' u) (f : k.Fit) :
    Calls Try.prog 14 #[.pointer (some ⟨b, 0, none⟩), .agg #[.int .i64 c, .slice A (abs k).length cap]] u fun e w' => e = .returned (.bool true) ∧ Below u.heap.size u w' :=
  like_any' h.2.2.2.2.1.1 b f x B A cap u h.ei.a0 h.ei.r0
theorem like_at' {w : World} {b y x z B : Nat} {c : Int} {k k' : Bk} {A : Option Addr} {cap : Nat} {A' : Option Addr} {cap' : Nat} {u : World} (h : EIS w b y x z B c k k' A cap A' cap' u) (f : k'.Fit) :
    Calls Try.prog 14 #[.pointer (some ⟨y, 0, none⟩), .agg #[.int .i64 c, .slice A' (abs k').length cap']] u fun e w' => e = .returned (.bool true) ∧ Below u.heap.size u w' :=
  like_any' h.2.2.2.2.1.2 y f z B A' cap' u h.ei.a1 h.ei.r1
theorem same_at {w : World} {b y x z B : Nat} {c : Int} {k k' : Bk} {A : Option Addr} {cap : Nat} {A' : Option Addr} {cap' : Nat} {u : World} (h : EIS w b y x z B c k k' A cap A' cap' u) (f : k.Fit) (f' : k'.Fit) {q : Bool} (hq : sameB k k' = q) :
    Calls Try.prog 16 #[.pointer (some ⟨b, 0, none⟩), .pointer (some ⟨y, 0, none⟩)] u fun e w' => e = .returned (.bool q) ∧ Below u.heap.size u w' := by
  rw [← hq]
  exact same_any b y k k' u h.ei.a0 h.ei.a1 f.ok f'.ok
theorem same_rows {w : World} {b y x z B : Nat} {c : Int} {k k' : Bk} {A : Option Addr} {cap : Nat} {A' : Option Addr} {cap' : Nat} {u : World} (h : EIS w b y x z B c k k' A cap A' cap' u) (f' : k'.Fit) {q : Bool} (hq : decide (abs k' = abs k) = q) :
    Calls Try.prog 17 #[.slice A' (abs k').length cap', .slice A (abs k).length cap] u fun e w' => e = .returned (.bool q) ∧ Below u.heap.size u w' := by
  rw [← hq]
  exact same_of A' cap' (abs k') A cap (abs k) u (Kd.R_reads' h.ei.r1.sl).2.1 (Kd.R_reads' h.ei.r0.sl).2.1 h.ei.r1.sl.c h.ei.r0.sl.c (by rw [abs_len]; have := f'.ok.n1; omega)

set_option maxHeartbeats 4000000 in
set_option maxRecDepth 100000 in
theorem play_walk (c n kind core i : Int) (A : Option Addr) (len cap : Nat) (ops : List (List Int)) (w : World) (ho : Ops.OpsAt w w.heap.size 3 (.slice A len cap) ops) :
    Calls Try.prog 4 #[.int .i64 c, .int .i64 n, .slice A len cap, .agg #[.int .i64 kind, .int .i64 core, .int .i64 i]] w fun e w' => e = .returned (.bool true) ∧ Below w.heap.size w w' := by
  obtain ⟨A', len', cap', hv, hol, hlm, hall, hcells⟩ := ho
  injection hv with e1 e2 e3
  subst e1 e2 e3
  unfold maxLen at hlm
  have HALL := Lib.hid hall; clear hall
  have HOL := Lib.hid hol; clear hol
  have HC := Lib.hid hcells; clear hcells
  have heq := neq_ptr
  have heq2 := eq_nil
  have hB0 : Below w.heap.size w (w.alloc (.cells #[.int .i64 kind, .int .i64 core, .int .i64 i] 28)) := (Below.refl _ _).alloc (Nat.le_refl _) _
  by_cases h1 : 100 < len
  · go_enter Try.func4, Try.ntmps4
    go_wp2_with fail
    refine (alive_any _).mono ?_
    rintro e w' ⟨rfl, hBa⟩
    have hBt := hB0.trans (hBa.mono (by simp))
    clear hBa
    go_wp2_with fail
    go_ret
    exact ⟨rfl, hBt⟩
  · by_cases hn : isNew c n
    · have f0 := new_fit hn
      go_enter Try.func4, Try.ntmps4
      go_wp2_with fail
      refine (new_yes c n _ hn).mono ?_
      rintro e w1 ⟨rfl, hA1, hB1, hs1⟩
      have hm1 : w1.heap[w.heap.size]? = some (.cells #[.int .i64 kind, .int .i64 core, .int .i64 i] 28 (0, 0)) := (hB1.block _ (by simp)).trans (heap_alloc_new w _)
      have hT1 := hB0.trans (hB1.mono (by simp))
      have hA1' : At w1 (w.heap.size + 1) (newBk c n) := by simpa using hA1
      have hs1' : w.heap.size + 1 < w1.heap.size := by simpa using hs1
      clear hA1 hB1 hs1 hB0
      go_wp2_with fail
      refine (is_yes c n hn _).mono ?_
      rintro e w2 ⟨rfl, hB2⟩
      have hm2 := (hB2.block _ (lt_of_block hm1)).trans hm1
      have hA2 := hA1'.below hB2
      have hT2 := hT1.trans (hB2.mono hT1.size)
      have hs2 : w.heap.size + 1 < w2.heap.size := by have := hB2.size; omega
      clear hm1 hA1' hT1 hB2 hs1'
      go_wp2_with fail
      refine (new_ref c n hn _).mono ?_
      rintro e w3 ⟨Ar, capr, rfl, hS3, hB3⟩
      have hm3 := (hB3.block _ (lt_of_block hm2)).trans hm2
      have hA3 := hA2.below hB3
      have hT3 := hT2.trans (hB3.mono hT2.size)
      have hs3 : w.heap.size + 1 < w3.heap.size := by have := hB3.size; omega
      have hS3' := hS3.lower (show w.heap.size + 2 ≤ w2.heap.size by omega)
      have P0 : PI w w3.heap.size kind core i (newBk c n) (newBk c n) Ar capr (w3.alloc (.cells #[.int .i64 c, .slice Ar (abs (newBk c n)).length capr] 38)) :=
        ⟨by rw [heap_alloc_old _ _ (lt_of_block hm3)]; exact hm3, hA3.alloc _, ⟨heap_alloc_new _ _, hS3'.below ((Below.refl _ _).alloc (Nat.le_refl _) _)⟩, hT3.alloc hT3.size _, hs3⟩
      clear hm2 hA2 hT2 hB3 hS3 hS3' hm3 hA3 hT3
      have HP0 := Lib.hid P0; clear P0
      go_wp2_with fail
      generalize hx : w3.heap.size = x at *
      clear hx hs3
      go_loopw [47] (fun j wr => ∃ (m : Nat) (k : Bk) (Ak : Option Addr) (capk : Nat), m ≤ len ∧ j = .int .i64 m ∧ k.Fit ∧ k.n = n ∧ k.cores = c ∧ PI w x kind core i k k Ak capk wr)
        (fun j _ => len - (intOf j).toNat)
      case atStart => exact ⟨0, newBk c n, Ar, capr, by omega, rfl, f0, rfl, rfl, HP0.out⟩
      case round =>
        obtain ⟨m, k, Ak, capk, hm, rfl, f, hkn, hkc, hP⟩ := hrel
        clear HP0 f0
        by_cases hlt : m < len
        · obtain ⟨b0, off, rfl, hb0, hcell⟩ := HC.out (by omega)
          have g0 := hcell m 0 hlt (by omega)
          have g1 := hcell m 1 hlt (by omega)
          have g2 := hcell m 2 hlt (by omega)
          clear hcell
          generalize (ops.getD m []).getD 0 0 = o0 at *
          generalize (ops.getD m []).getD 1 0 = o1 at *
          generalize (ops.getD m []).getD 2 0 = o2 at *
          have q0 : wr.cell? ⟨b0, off + m * 3, none⟩ = some (.int .i64 o0) := (hP.bel.cell (p := ⟨b0, off + m * 3, none⟩) hb0).trans g0
          have q1 : wr.cell? ⟨b0, off + m * 3 + 1, none⟩ = some (.int .i64 o1) := (hP.bel.cell (p := ⟨b0, off + m * 3 + 1, none⟩) hb0).trans g1
          have q2 : wr.cell? ⟨b0, off + m * 3 + 2, none⟩ = some (.int .i64 o2) := (hP.bel.cell (p := ⟨b0, off + m * 3 + 2, none⟩) hb0).trans g2
          clear g0 g1 g2
          have hbounds : m < 9223372036854775807 := by omega
          have hP1 := fun o => hP.below ((Below.refl wr.heap.size wr).alloc (Nat.le_refl _) o)
          have x0 := fun o => (hP1 o).rb.c0
          have x1 := fun o => (hP1 o).rb.c1
          have hsz : w.heap.size + 2 ≤ wr.heap.size := by have := lt_of_block hP.at_; omega
          have HP1 := Lib.hid hP1; clear hP1
          have HP := Lib.hid hP; clear hP
          obtain ⟨k', rx, re, hd⟩ : ∃ k' rx re, doR k o0 o1 o2 = (k', rx, re) := ⟨_, _, _, rfl⟩
          have f' : k'.Fit := by have := doR_fit f o0 o1 o2; rw [hd] at this; exact this
          have hn' : k'.n = n := by have := doR_n k o0 o1 o2; rw [hd] at this; exact this.trans hkn
          have hc' : k'.cores = c := by have := doR_cores k o0 o1 o2; rw [hd] at this; exact this.trans hkc
          have HD := Lib.hid hd; clear hd
          go_wp2_with fail
          refine (ref_do' HD.out hkc f x (w.heap.size + 2) Ak capk _ (HP1.out _).rb (by simp; omega)).mono ?_
          rintro e w2 ⟨A2, cap2, rfl, hS2, hB2⟩
          have hP2 := (HP1.out _).below hB2
          have k0 : w2.cell? ⟨wr.heap.size, 0, none⟩ = some (.int .i64 o0) := (hB2.cell (p := ⟨wr.heap.size, 0, none⟩) (by simp)).trans (by go_simp)
          have k1 : w2.cell? ⟨wr.heap.size, 1, none⟩ = some (.int .i64 o1) := (hB2.cell (p := ⟨wr.heap.size, 1, none⟩) (by simp)).trans (by go_simp)
          have k2 : w2.cell? ⟨wr.heap.size, 2, none⟩ = some (.int .i64 o2) := (hB2.cell (p := ⟨wr.heap.size, 2, none⟩) (by simp)).trans (by go_simp)
          have HP4 := Lib.hid (fun o => (hP2.put k' A2 cap2 hS2 hc').below ((Below.refl _ _).alloc (Nat.le_refl _) o))
          have hx2 : x < w2.heap.size := lt_of_block hP2.rb.box
          have hne : wr.heap.size ≠ x := by
            rintro rfl
            have := hB2.block wr.heap.size (by simp)
            rw [heap_alloc_new, hP2.rb.box] at this
            injection this with this
            injection this with _ h2 _
            exact absurd h2 (by decide)
          have j0 : ∀ o v v', (((w2.setCell ⟨x, 0, none⟩ v).setCell ⟨x, 1, none⟩ v').alloc o).cell? ⟨wr.heap.size, 0, none⟩ = some (.int .i64 o0) := fun o v v' => by
            have := keep_put (p := ⟨wr.heap.size, 0, none⟩) hne v v' k0
            exact (((Below.refl _ _).alloc (Nat.le_refl _) o).cell (World.block_lt_of_cell? _ _ this)).trans this
          have j1 : ∀ o v v', (((w2.setCell ⟨x, 0, none⟩ v).setCell ⟨x, 1, none⟩ v').alloc o).cell? ⟨wr.heap.size, 1, none⟩ = some (.int .i64 o1) := fun o v v' => by
            have := keep_put (p := ⟨wr.heap.size, 1, none⟩) hne v v' k1
            exact (((Below.refl _ _).alloc (Nat.le_refl _) o).cell (World.block_lt_of_cell? _ _ this)).trans this
          have j2 : ∀ o v v', (((w2.setCell ⟨x, 0, none⟩ v).setCell ⟨x, 1, none⟩ v').alloc o).cell? ⟨wr.heap.size, 2, none⟩ = some (.int .i64 o2) := fun o v v' => by
            have := keep_put (p := ⟨wr.heap.size, 2, none⟩) hne v v' k2
            exact (((Below.refl _ _).alloc (Nat.le_refl _) o).cell (World.block_lt_of_cell? _ _ this)).trans this
          have v0 : w2.cell? ⟨x, 0, none⟩ = some (.int .i64 c) := by have := hP2.rb.c0; rw [hkc] at this; exact this
          have v1 := hP2.rb.c1
          have v2 := blk_frozen hP2.rb.box 0
          have v3 := blk_frozen hP2.rb.box 1
          have hx3 : x ≠ w2.heap.size := by omega
          have hx4 : w2.heap.size ≠ x := by omega
          have HP2 := Lib.hid hP2; clear hP2
          have HS2 := Lib.hid hS2; clear hS2
          have HB2 := Lib.hid hB2; clear hB2
          clear x0 x1 q0 q1 q2
          go_wp2_with fail
          refine (do_any' HD.out f (w.heap.size + 1) _ (HP4.out _).at_).mono ?_
          rintro e w5 ⟨rfl, hA5, hG5⟩
          have hP5 := (HP4.out _).do_ hA5 hG5
          have z0 : w5.cell? ⟨x, 0, none⟩ = some (.int .i64 c) := by have := hP5.rb.c0; rw [hc'] at this; exact this
          have z1 := hP5.rb.c1
          have HP5 := Lib.hid hP5; clear hP5
          clear hG5 hA5 v0 v1 v2 v3 j0 j1 j2 k0 k1 k2
          go_wp2_with fail
          refine (like_any' hc' (w.heap.size + 1) f' x (w.heap.size + 2) A2 cap2 _ HP5.out.at_ HP5.out.rb).mono ?_
          rintro e w6 ⟨rfl, hB6⟩
          have HP6 := Lib.hid (HP5.out.below hB6)
          clear hB6 z0 z1
          go_wp2_with fail
          go_roundw
          case rel => exact ⟨m + 1, k', A2, cap2, by omega, by go_num, f', hn', hc', HP6.out⟩
          case measure => simp [intOf]; omega
        · have hml : m = len := by omega
          subst hml
          have hsz : w.heap.size + 2 ≤ wr.heap.size := by have := lt_of_block hP.at_; omega
          have hAb := hP.at_
          have hsk : sameB k k = true := by simp [sameB]
          have HP := Lib.hid hP; clear hP
          obtain ⟨k', rx, re, hd⟩ : ∃ k' rx re, doR k kind core i = (k', rx, re) := ⟨_, _, _, rfl⟩
          have f' : k'.Fit := by have := doR_fit f kind core i; rw [hd] at this; exact this
          have hn' : k'.n = n := by have := doR_n k kind core i; rw [hd] at this; exact this.trans hkn
          have hc' : k'.cores = c := by have := doR_cores k kind core i; rw [hd] at this; exact this.trans hkc
          have HD := Lib.hid hd; clear hd
          obtain ⟨q, hq1, hq2⟩ : ∃ q, sameB k k' = q ∧ decide (abs k' = abs k) = q := ⟨_, rfl, (sameB_abs k k' f f' (hc'.trans hkc.symm) (hn'.trans hkn.symm)).symm⟩
          have HQ := Lib.hid (And.intro hq1 hq2); clear hq1 hq2
          go_wp2_with fail
          refine (clone_any (w.heap.size + 1) k _ hAb f.ok).mono ?_
          rintro e w2 ⟨rfl, hA2, hB2, hs2⟩
          have HP2 := Lib.hid (HP.out.below hB2)
          clear hB2 hAb
          go_wp2_with fail
          refine (same_any (w.heap.size + 1) wr.heap.size k k _ HP2.out.at_ hA2 f.ok f.ok).mono ?_
          rintro e w3 ⟨rfl, hB3⟩
          rw [hsk]
          have hA3 := hA2.below hB3
          have hP3 := HP2.out.below hB3
          have hs3 : wr.heap.size < w3.heap.size := by have := hB3.size; omega
          have m0 : w3.cell? ⟨w.heap.size, 0, none⟩ = some (.int .i64 kind) := (blk_cell hP3.more 0).trans rfl
          have m1 : w3.cell? ⟨w.heap.size, 1, none⟩ = some (.int .i64 core) := (blk_cell hP3.more 1).trans rfl
          have m2 : w3.cell? ⟨w.heap.size, 2, none⟩ = some (.int .i64 i) := (blk_cell hP3.more 2).trans rfl
          have x0 : w3.cell? ⟨x, 0, none⟩ = some (.int .i64 c) := by have := hP3.rb.c0; rw [hkc] at this; exact this
          have x1 := hP3.rb.c1
          have HP3 := Lib.hid hP3; clear hP3
          clear hA2 hB3
          go_wp2_with fail
          refine (ref_do' HD.out hkc f x (w.heap.size + 2) Ak capk _ HP3.out.rb (by omega)).mono ?_
          rintro e w4 ⟨A2, cap2, rfl, hS4, hB4⟩
          have hP4 := HP3.out.below hB4
          have hA4 := hA3.below hB4
          have hs4 : wr.heap.size < w4.heap.size := by have := hB4.size; omega
          have hR4 : Rb (w4.alloc (.cells #[.int .i64 c, .slice A2 (abs k').length cap2] 38)) w4.heap.size (w.heap.size + 2) k' A2 cap2 := ⟨by rw [hc']; exact heap_alloc_new _ _, hS4.below ((Below.refl _ _).alloc (Nat.le_refl _) _)⟩
          have hb4 := (Below.refl w4.heap.size w4).alloc (Nat.le_refl _) (.cells #[.int .i64 c, .slice A2 (abs k').length cap2] 38)
          have hP4' := hP4.below hb4
          have hA4' := hA4.below hb4
          have n0 : (w4.alloc (.cells #[.int .i64 c, .slice A2 (abs k').length cap2] 38)).cell? ⟨w.heap.size, 0, none⟩ = some (.int .i64 kind) := (blk_cell hP4'.more 0).trans rfl
          have n1 : (w4.alloc (.cells #[.int .i64 c, .slice A2 (abs k').length cap2] 38)).cell? ⟨w.heap.size, 1, none⟩ = some (.int .i64 core) := (blk_cell hP4'.more 1).trans rfl
          have n2 : (w4.alloc (.cells #[.int .i64 c, .slice A2 (abs k').length cap2] 38)).cell? ⟨w.heap.size, 2, none⟩ = some (.int .i64 i) := (blk_cell hP4'.more 2).trans rfl
          have HP4 := Lib.hid hP4'; clear hP4' hP4
          have HA4 := Lib.hid hA4'; clear hA4' hA4 hA3
          have HR4 := Lib.hid hR4; clear hR4 hS4 hB4 hb4
          clear m0 m1 m2 x0 x1
          go_wp2_with fail
          refine (do_any' HD.out f wr.heap.size _ HA4.out).mono ?_
          rintro e w5 ⟨rfl, hA5, hG5⟩
          have hE : EI w (w.heap.size + 1) wr.heap.size x w4.heap.size (w.heap.size + 2) k k' Ak capk A2 cap2 w5 :=
            ⟨(hG5.block _ (lt_of_block HP4.out.at_) (by simp; omega)).trans HP4.out.at_, hA5, HP4.out.rb.grownT HA4.out hG5, HR4.out.grownT HA4.out hG5, below_grown HP4.out.bel hG5 HP4.out.bel.size (by omega)⟩
          have HE := Lib.hid hE; clear hE
          clear hA5 hG5 n0 n1 n2
          go_wp2_with fail
          have HCC := Lib.hid (And.intro hkc hc')
          go_region_held3 (EIS w (w.heap.size + 1) wr.heap.size x w4.heap.size (w.heap.size + 2) c k k' Ak capk A2 cap2)
            (first | with_reducible exact HE.out.all HCC.out | exact (HE.out.keep (Below.refl _ _).drew).all HCC.out | with_reducible exact EI.next (by assumption) (by assumption))
            (first
              | (go_at_call 14; with_reducible refine (like_at' (w := w) (b := w.heap.size + 1) (y := wr.heap.size) (x := x) (z := w4.heap.size) (B := w.heap.size + 2) (c := c) (k := k) (k' := k') (A := Ak) (cap := capk) (A' := A2) (cap' := cap2) (by assumption) f').mono ?_; rintro e u1 ⟨rfl, hb1⟩)
              | (go_at_call 14; with_reducible refine (like_at (w := w) (b := w.heap.size + 1) (y := wr.heap.size) (x := x) (z := w4.heap.size) (B := w.heap.size + 2) (c := c) (k := k) (k' := k') (A := Ak) (cap := capk) (A' := A2) (cap' := cap2) (by assumption) f).mono ?_; rintro e u2 ⟨rfl, hb2⟩)
              | (go_at_call 16; with_reducible refine (same_at (w := w) (b := w.heap.size + 1) (y := wr.heap.size) (x := x) (z := w4.heap.size) (B := w.heap.size + 2) (c := c) (k := k) (k' := k') (A := Ak) (cap := capk) (A' := A2) (cap' := cap2) (by assumption) f f' HQ.out.1).mono ?_; rintro e u3 ⟨rfl, hb3⟩)
              | (go_at_call 17; with_reducible refine (same_rows (w := w) (b := w.heap.size + 1) (y := wr.heap.size) (x := x) (z := w4.heap.size) (B := w.heap.size + 2) (c := c) (k := k) (k' := k') (A := Ak) (cap := capk) (A' := A2) (cap' := cap2) (by assumption) f' HQ.out.2).mono ?_; rintro e u4 ⟨rfl, hb4⟩)
              | (go_at_call 8; refine (alive_any _).mono ?_; rintro e u5 ⟨rfl, hb5⟩))
          rename_i hH
          have hBt := hH.2.2.2.2.2.bel
          clear hH
          go_wp2_with fail
          go_ret
          exact ⟨rfl, hBt⟩
    · go_enter Try.func4, Try.ntmps4
      go_wp2_with fail
      refine (new_no c n _ hn).mono ?_
      rintro e w1 ⟨rfl, rfl⟩
      go_wp2_with fail
      refine (is_no c n hn _).mono ?_
      rintro e w1 ⟨rfl, hB1⟩
      have hB1' := hB0.trans (hB1.mono (by simp))
      clear hB1
      go_wp2_with fail
      refine (alive_any _).mono ?_
      rintro e w' ⟨rfl, hBa⟩
      have hBt := hB1'.trans (hBa.mono hB1'.size)
      clear hBa
      go_wp2_with fail
      go_ret
      exact ⟨rfl, hBt⟩

end Go.Proofs.Ytloifnnofldgmaa.Locks
