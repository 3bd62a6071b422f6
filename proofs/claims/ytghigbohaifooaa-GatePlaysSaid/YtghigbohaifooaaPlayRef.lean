/- Gate: the reference's slices, what keeps them, and the contracts of the reference's calls. -/
import Derived.Test.YtghigbohaifooaaPlayLaw
namespace Go.Proofs.Ytghigbohaifooaa.Gates
set_option linter.unusedVariables false
set_option linter.unusedSimpArgs false
open Go.RowKit Go.Proofs.Ytghigbohaifooaa.PGatePlays Go.Proofs.YtghigbohaifooaaW.PrintWords

/-- A slice of cores of the call's own, in a block from B on. -/
def Sg (w : World) (B : Nat) (v : Value) (l : List S48) : Prop := Kd.R k48 48 w B (fun _ => True) v l

theorem Sg.below {w w' : World} {B : Nat} {v : Value} {l : List S48} (h : Sg w B v l) (hb : Below w.heap.size w w') : Sg w' B v l := Kd.R_below h hb
theorem Sg.grownT {w w' : World} {B y : Nat} {v : Value} {l : List S48} {k : Gt} (h : Sg w B v l) (hA : At w y k) (hg : w.grownBy w' (some y)) : Sg w' B v l := by
  have h1 := Kd.R_mono (ok' := fun k => k ≠ y) (Kd.R_bound h) (fun j hk => by
    obtain ⟨-, -, -, q, hq, cells, hcell⟩ := hk
    rintro rfl
    rw [show w.heap[j]? = _ from hA] at hcell
    injection hcell with hcell
    injection hcell with _ h2 _
    have : q = 48 := by simpa [k48, Kd.iso, Kd.pair, Kd.int, Kd.bool, Kd.scalar] using hq
    rw [this] at h2
    exact absurd h2 (by decide))
  exact Kd.R_mono (Kd.R_grown h1 hg (fun k hk => by simpa using hk)) (fun _ _ => trivial)
theorem Sg.lower {w : World} {B B' : Nat} {v : Value} {l : List S48} (h : Sg w B v l) (hB : B' ≤ B) : Sg w B' v l := Kd.R_lower h hB
theorem Sg.open_ {w : World} {B : Nat} {v : Value} {l : List S48} (h : Sg w B v l) : ∃ A c, v = .slice A l.length c ∧ l.length ≤ c ∧ Kd.C k48 w A l.length l := Kd.R_reads h
theorem Sg.c {w : World} {B : Nat} {A : Option Addr} {n c : Nat} {l : List S48} (h : Sg w B (.slice A n c) l) : n = l.length ∧ l.length ≤ c ∧ Kd.C k48 w A l.length l := by
  have := Kd.R_reads' h
  exact ⟨this.1, this.1 ▸ this.2.1, this.2.2⟩

theorem has_any (k : Gt) (f : k.Fit) (c : Int) (A : Option Addr) (cap B : Nat) (w : World) (h : Sg w B (.slice A (absG k).length cap) (absG k)) :
    Calls Try.prog 20 #[.slice A (absG k).length cap, .int .i64 c] w fun e w' => e = .returned (.bool (decide (coreE k.cores c = 0))) ∧ Below w.heap.size w w' := by
  refine (switchyardref11_Has.calls A cap (absG k) c _ w h.c.2.2 h.c.2.1 (has_eq k f c)).mono ?_
  rintro e w' ⟨rfl, hd⟩
  exact ⟨rfl, hd.below⟩
theorem rlink_any (k : Gt) (f : k.Fit) (a b : Int) (A : Option Addr) (cap B : Nat) (w : World) (h : Sg w B (.slice A (absG k).length cap) (absG k)) :
    Calls Try.prog 21 #[.slice A (absG k).length cap, .int .i64 a, .int .i64 b] w fun e w' => e = .returned (.tuple #[.int .i64 (linkR k a b), .int .i64 (linkE k a b)]) ∧ Below w.heap.size w w' := by
  refine (switchyardref11_Link.calls 1 A cap (absG k) a b _ _ w h.c.2.2 h.c.2.1 (link_eq k f a b)).mono ?_
  rintro e w' ⟨rfl, hd⟩
  exact ⟨rfl, hd.below⟩
theorem rdown_any (k : Gt) (f : k.Fit) (A : Option Addr) (cap B : Nat) (w : World) (h : Sg w B (.slice A (absG k).length cap) (absG k)) :
    Calls Try.prog 18 #[.slice A (absG k).length cap] w fun e w' => ∃ A' cap', e = .returned (.slice A' (downR k).length cap') ∧ (downR k).length ≤ cap' ∧ Kd.C (Kd.int .i64) w' A' (downR k).length (downR k) ∧ Below w.heap.size w w' := by
  refine (switchyardref11_Down.calls 20 A cap (absG k) _ w h.c.2.2 h.c.2.1 (down_eq k f)).mono ?_
  rintro e w' ⟨v, rfl, hR, hb⟩
  obtain ⟨A', cap', rfl, hc, hC⟩ := Kd.R_reads hR
  exact ⟨A', cap', rfl, hc, hC, hb⟩
theorem pdown_any (b : Nat) (k : Gt) (f : k.Fit) (w : World) (h : At w b k) :
    Calls Try.prog 17 #[.pointer (some ⟨b, 0, none⟩)] w fun e w' => ∃ A' cap', e = .returned (.slice A' (downR k).length cap') ∧ (downR k).length ≤ cap' ∧ Kd.C (Kd.int .i64) w' A' (downR k).length (downR k) ∧ Below w.heap.size w w' := by
  refine (down_any b k w h f.ok).mono ?_
  rintro e w' ⟨v, rfl, ho, hb⟩
  obtain ⟨A, cap, rfl, hc, hr⟩ := own_reads_of_le (enc := Value.int .i64) (d := (0 : Int)) ho
  exact ⟨A, cap, rfl, hc, Kd.C_of_reads hr, hb⟩
theorem rsame_any (k k' : Gt) (f : k.Fit) (f' : k'.Fit) (hc : k'.cores = k.cores) (A : Option Addr) (cap : Nat) (A' : Option Addr) (cap' B : Nat) (w : World) (h : Sg w B (.slice A (absG k).length cap) (absG k)) (h' : Sg w B (.slice A' (absG k').length cap') (absG k')) :
    Calls Try.prog 24 #[.slice A (absG k).length cap, .slice A' (absG k').length cap'] w fun e w' => e = .returned (.bool (sameG k k')) ∧ Below w.heap.size w w' := by
  refine (switchyardref11_Same.calls 20 A cap (absG k) A' cap' (absG k') _ w h.c.2.2 h.c.2.1 h'.c.2.2 h'.c.2.1 (same_eq k k' f f' hc)).mono ?_
  rintro e w' ⟨rfl, hd⟩
  exact ⟨rfl, hd.below⟩
theorem same_ll (A1 : Option Addr) (c1 : Nat) (A2 : Option Addr) (c2 : Nat) (l : List Int) (w : World) (h1 : l.length ≤ c1) (h2 : l.length ≤ c2) (hC1 : Kd.C (Kd.int .i64) w A1 l.length l) (hC2 : Kd.C (Kd.int .i64) w A2 l.length l) (hl : l.length < 99) :
    Calls Try.prog 16 #[.slice A1 l.length c1, .slice A2 l.length c2] w fun e w' => e = .returned (.bool true) ∧ Below w.heap.size w w' := by
  refine (switchyardref03_Same.calls 100 A1 c1 l A2 c2 l true w hC1 h1 hC2 h2 (ints_eq l hl)).mono ?_
  rintro e w' ⟨rfl, hd⟩
  exact ⟨rfl, hd.below⟩
theorem is_yes (c : Int) (h : isNew c) (w : World) : Calls Try.prog 14 #[.int .i64 c] w fun e w' => e = .returned (.bool true) ∧ Below w.heap.size w w' := by
  obtain ⟨h1, h2⟩ := h
  refine (switchyardref11_Is.calls c true w ?_).mono ?_
  · unfold switchyardref11_Is.f
    rw [if_pos h1]
    simp [h2]
  · rintro e w' ⟨rfl, hd⟩
    exact ⟨rfl, hd.below⟩
theorem is_no (c : Int) (h : ¬ isNew c) (w : World) : Calls Try.prog 14 #[.int .i64 c] w fun e w' => e = .returned (.bool false) ∧ Below w.heap.size w w' := by
  refine (switchyardref11_Is.calls c false w ?_).mono ?_
  · unfold switchyardref11_Is.f
    unfold isNew at h
    by_cases h1 : c ≥ 1
    · rw [if_pos h1]
      have : ¬ c ≤ 8 := by omega
      simp [this]
    · rw [if_neg h1]
  · rintro e w' ⟨rfl, hd⟩
    exact ⟨rfl, hd.below⟩

theorem down_len (k : Gt) (f : k.Fit) : (downR k).length < 99 := by
  have := downTo_len k.held k.cores.toNat
  have := f.ok.c1
  unfold downR
  omega

set_option maxHeartbeats 1000000 in
theorem rhold_any (k : Gt) (f : k.Fit) (c : Int) (A : Option Addr) (cap B : Nat) (w : World) (h : Sg w B (.slice A (absG k).length cap) (absG k)) (hB : B ≤ w.heap.size) :
    Calls Try.prog 27 #[.slice A (absG k).length cap, .int .i64 c] w fun e w' => ∃ A' cap', e = .returned (.tuple #[.slice A' (absG (holdR k c).1).length cap', .int .i64 (holdR k c).2]) ∧ Sg w' B (.slice A' (absG (holdR k c).1).length cap') (absG (holdR k c).1) ∧ Below w.heap.size w w' := by
  by_cases hc : coreE k.cores c = 0
  · obtain ⟨hc0, hc1⟩ := core_in hc
    have hlen : c < ((absG k).length : Int) := by rw [abs_len]; omega
    obtain ⟨ad, e, g0, g1⟩ := at_T48 h.c.2.2 c hc0 hlen
    subst e
    rw [abs_at k c hc0 hc1] at g0 g1
    have hx := has_any k f c (some ad) cap B w h
    rw [decide_eq_true hc] at hx
    have HX := Lib.hid hx; clear hx
    by_cases hh : k.held.getD c.toNat false = true
    · have e1 : holdR k c = (k, 11) := by unfold holdR; rw [if_pos hc, if_pos hh]
      rw [e1]
      dsimp only at g0 g1
      rw [hh] at g1
      clear hc hh e1
      go_enter Try.func27, Try.ntmps27
      go_wp2_with fail
      refine HX.out.mono ?_
      rintro e w1 ⟨rfl, hB1⟩
      have k1 := (hB1.cell (World.block_lt_of_cell? w _ g1)).trans g1
      have HS := Lib.hid (h.below hB1)
      have HB := Lib.hid hB1; clear hB1
      go_wp2_with fail
      go_ret2
      exact ⟨some ad, cap, rfl, HS.out, HB.out⟩
    · have hh' : k.held.getD c.toNat false = false := by simpa using hh
      have e1 : holdR k c = (k.hold c.toNat true, 0) := by unfold holdR; rw [if_pos hc, if_neg hh]
      rw [e1]
      dsimp only at g0 g1
      rw [hh'] at g1
      have hset : (absG k).set c.toNat ⟨k.eps.getD c.toNat 0, true⟩ = absG (k.hold c.toNat true) :=
        abs_set k (k.hold c.toNat true) rfl c.toNat (by omega) _ (fun m hm => by
          by_cases e : c.toNat = m
          · subst e; rw [if_pos rfl]; rfl
          · rw [if_neg e]; rfl) (fun m hm => hold_at f.ok c.toNat m true (by have := f.ok.c1; omega))
      have hw := with_eq k f c (k.eps.getD c.toNat 0) true hc0 hc1
      rw [hset] at hw
      have HW := Lib.hid hw; clear hw hset
      generalize absG (k.hold c.toNat true) = y at *
      generalize k.eps.getD c.toNat 0 = x at *
      clear hc hh hh' e1
      go_enter Try.func27, Try.ntmps27
      go_wp2_with fail
      refine HX.out.mono ?_
      rintro e w1 ⟨rfl, hB1⟩
      have k1 := (hB1.cell (World.block_lt_of_cell? w _ g1)).trans g1
      have k0 := (hB1.cell (World.block_lt_of_cell? w _ g0)).trans g0
      have HS := Lib.hid (h.below hB1)
      have HB := Lib.hid hB1; clear hB1
      go_wp2_with fail
      refine (switchyardref11_with.calls (some ad) cap (absG k) c x true y _ HS.out.c.2.2 HS.out.c.2.1 HW.out).mono ?_
      rintro e w2 ⟨v, rfl, hR, hB2⟩
      obtain ⟨A', cap', rfl, hcc, hC⟩ := Kd.R_reads hR
      have HR := Lib.hid hR; clear hR hC
      have HB2 := Lib.hid (HB.out.trans (hB2.mono HB.out.size))
      have hs := HB.out.size
      clear hB2
      go_wp2_with fail
      go_ret2
      exact ⟨A', cap', rfl, Sg.lower HR.out (by omega), HB2.out⟩
  · have e1 : holdR k c = (k, 3) := by unfold holdR; rw [if_neg hc]; unfold coreE at hc ⊢; split at hc <;> first | (exact absurd rfl hc) | (rw [if_neg (by assumption)])
    rw [e1]
    have hx := has_any k f c A cap B w h
    rw [decide_eq_false hc] at hx
    have HX := Lib.hid hx; clear hx hc e1
    go_enter Try.func27, Try.ntmps27
    go_wp2_with fail
    refine HX.out.mono ?_
    rintro e w1 ⟨rfl, hB1⟩
    have HB := Lib.hid hB1; clear hB1
    go_wp2_with fail
    go_ret2
    exact ⟨A, cap, rfl, h.below HB.out, HB.out⟩

end Go.Proofs.Ytghigbohaifooaa.Gates
