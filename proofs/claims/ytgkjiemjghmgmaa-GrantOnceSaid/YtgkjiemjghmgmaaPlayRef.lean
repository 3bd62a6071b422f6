/- Grant: the reference's slices, what keeps them, and the contracts of the reference's calls. -/
import Derived.Test.YtgkjiemjghmgmaaPlayLaw
import Derived.Laws.MakeOwn
import Derived.Deep.RegionHeld3
namespace Go.Proofs.Ytgkjiemjghmgmaa.Grants
set_option linter.unusedVariables false
set_option linter.unusedSimpArgs false
open Go.RowKit Go.Proofs.Ytgkjiemjghmgmaa.PGrantPlays Go.Proofs.YtgkjiemjghmgmaaW.PrintWords

/-- A slice of slots of the call's own, in a block from B on. -/
def Sg (w : World) (B : Nat) (v : Value) (l : List S56) : Prop := Kd.R k56 56 w B (fun _ => True) v l

theorem Sg.below {w w' : World} {B : Nat} {v : Value} {l : List S56} (h : Sg w B v l) (hb : Below w.heap.size w w') : Sg w' B v l := Kd.R_below h hb
theorem Sg.grownT {w w' : World} {B y : Nat} {v : Value} {l : List S56} {k : Tb} (h : Sg w B v l) (hA : At w y k) (hg : w.grownBy w' (some y)) : Sg w' B v l := by
  have h1 := Kd.R_mono (ok' := fun k => k ≠ y) (Kd.R_bound h) (fun j hk => by
    obtain ⟨-, -, -, q, hq, cells, hcell⟩ := hk
    rintro rfl
    rw [show w.heap[j]? = _ from hA] at hcell
    injection hcell with hcell
    injection hcell with _ h2 _
    have : q = 56 := by simpa [k56, Kd.iso, Kd.pair, Kd.int, Kd.bool, Kd.scalar] using hq
    rw [this] at h2
    exact absurd h2 (by decide))
  exact Kd.R_mono (Kd.R_grown h1 hg (fun k hk => by simpa using hk)) (fun _ _ => trivial)
theorem Sg.lower {w : World} {B B' : Nat} {v : Value} {l : List S56} (h : Sg w B v l) (hB : B' ≤ B) : Sg w B' v l := Kd.R_lower h hB
theorem Sg.c {w : World} {B : Nat} {A : Option Addr} {n c : Nat} {l : List S56} (h : Sg w B (.slice A n c) l) : n = l.length ∧ l.length ≤ c ∧ Kd.C k56 w A l.length l := by
  have := Kd.R_reads' h
  exact ⟨this.1, this.1 ▸ this.2.1, this.2.2⟩
/-- A store into a block of another type. -/
theorem Sg.set {w : World} {B : Nat} {v : Value} {l : List S56} (h : Sg w B v l) (p : Addr) (u : Value) (hne : ∃ cs t, w.heap[p.block]? = some (.cells cs t (0, 0)) ∧ t ≠ 56) : Sg (w.setCell p u) B v l := by
  obtain ⟨cs, t, hc, ht⟩ := hne
  have h1 := Kd.R_mono (ok' := fun k => k ≠ p.block) (Kd.R_bound h) (fun k hk => by
    obtain ⟨-, -, -, q, hq, cells, hcell⟩ := hk
    rintro rfl
    rw [hc] at hcell
    injection hcell with hcell
    injection hcell with _ h2 _
    have : q = 56 := by simpa [k56, Kd.iso, Kd.pair, Kd.int, Kd.bool, Kd.scalar] using hq
    exact ht (h2.trans this))
  exact Kd.R_mono (Kd.R_far h1 (fun k hk => hk) u) (fun _ _ => trivial)

theorem rheld_any (k : Tb) (ok : k.Ok) (A : Option Addr) (cap B : Nat) (w : World) (h : Sg w B (.slice A (absT k).length cap) (absT k)) :
    Calls Try.prog 19 #[.slice A (absT k).length cap] w fun e w' => ∃ A' cap', e = .returned (.slice A' (heldR k).length cap') ∧ (heldR k).length ≤ cap' ∧ Kd.C (Kd.int .i64) w' A' (heldR k).length (heldR k) ∧ Below w.heap.size w w' := by
  refine (switchyardref15_Held.calls 70 A cap (absT k) _ w h.c.2.2 h.c.2.1 (rheld_eq k ok)).mono ?_
  rintro e w' ⟨v, rfl, hR, hb⟩
  obtain ⟨A', cap', rfl, hc, hC⟩ := Kd.R_reads hR
  exact ⟨A', cap', rfl, hc, hC, hb⟩
theorem pheld_any (b : Nat) (k : Tb) (ok : k.Ok) (w : World) (h : At w b k) :
    Calls Try.prog 12 #[.pointer (some ⟨b, 0, none⟩)] w fun e w' => ∃ A' cap', e = .returned (.slice A' (heldR k).length cap') ∧ (heldR k).length ≤ cap' ∧ Kd.C (Kd.int .i64) w' A' (heldR k).length (heldR k) ∧ Below w.heap.size w w' := by
  refine (held_any b k w h ok).mono ?_
  rintro e w' ⟨v, rfl, ho, hb⟩
  obtain ⟨A, cap, rfl, hc, hr⟩ := own_reads_of_le (enc := Value.int .i64) (d := (0 : Int)) ho
  exact ⟨A, cap, rfl, hc, Kd.C_of_reads hr, hb⟩
theorem same_ll (A1 : Option Addr) (c1 : Nat) (A2 : Option Addr) (c2 : Nat) (l : List Int) (w : World) (h1 : l.length ≤ c1) (h2 : l.length ≤ c2) (hC1 : Kd.C (Kd.int .i64) w A1 l.length l) (hC2 : Kd.C (Kd.int .i64) w A2 l.length l) (hl : l.length < 99) :
    Calls Try.prog 18 #[.slice A1 l.length c1, .slice A2 l.length c2] w fun e w' => e = .returned (.bool true) ∧ Below w.heap.size w w' := by
  refine (switchyardref03_Same.calls 100 A1 c1 l A2 c2 l true w hC1 h1 hC2 h2 (ints_eq l hl)).mono ?_
  rintro e w' ⟨rfl, hd⟩
  exact ⟨rfl, hd.below⟩
theorem held_len (k : Tb) (ok : k.Ok) : (heldR k).length < 99 := by
  have := heldTo_len k.held k.n.toNat
  have := ok.n1
  unfold heldR
  omega
theorem rhandle_any (k : Tb) (ok : k.Ok) (x : Int) (A : Option Addr) (cap B : Nat) (w : World) (h : Sg w B (.slice A (absT k).length cap) (absT k)) :
    Calls Try.prog 15 #[.slice A (absT k).length cap, .int .i64 x] w fun e w' => e = .returned (.int .i64 (handleR k x)) ∧ Below w.heap.size w w' :=
  switchyardref15_Handle.calls 70 A cap (absT k) x _ w h.c.2.2 h.c.2.1 (rhandle_eq k ok x)
theorem rslot_any (k : Tb) (ok : k.Ok) (x : Int) (A : Option Addr) (cap B : Nat) (w : World) (h : Sg w B (.slice A (absT k).length cap) (absT k)) :
    Calls Try.prog 25 #[.slice A (absT k).length cap, .int .i64 x] w fun e w' => e = .returned (.tuple #[.int .i64 (slotR k x).1, .bool (slotR k x).2]) ∧ Below w.heap.size w w' := by
  refine (switchyardref15_Slot.calls 70 A cap (absT k) x _ _ w h.c.2.2 h.c.2.1 (rslot_eq k ok x)).mono ?_
  rintro e w' ⟨rfl, hd⟩
  exact ⟨rfl, hd.below⟩
theorem rwith_any (k k' : Tb) (ok : k.Ok) (i e0 : Int) (b0 : Bool) (h0 : 0 ≤ i) (h1 : i < k.n) (hset : (absT k).set i.toNat ⟨e0, b0⟩ = absT k') (A : Option Addr) (cap B : Nat) (w : World) (h : Sg w B (.slice A (absT k).length cap) (absT k)) (hB : B ≤ w.heap.size) :
    Calls Try.prog 28 #[.slice A (absT k).length cap, .int .i64 i, .agg #[.int .i64 e0, .bool b0]] w fun e w' => ∃ A' cap', e = .returned (.slice A' (absT k').length cap') ∧ Sg w' B (.slice A' (absT k').length cap') (absT k') ∧ Below w.heap.size w w' := by
  have hw := with_eq k ok i e0 b0 h0 h1
  rw [hset] at hw
  refine (switchyardref15_with.calls A cap (absT k) i e0 b0 _ w h.c.2.2 h.c.2.1 hw).mono ?_
  rintro e w' ⟨v, rfl, hR, hb⟩
  obtain ⟨A', cap', rfl, hc, hC⟩ := Kd.R_reads hR
  exact ⟨A', cap', rfl, Sg.lower hR hB, hb⟩
theorem is_yes (c : Int) (h : isNew c) (w : World) : Calls Try.prog 13 #[.int .i64 c] w fun e w' => e = .returned (.bool true) ∧ Below w.heap.size w w' := by
  obtain ⟨h1, h2⟩ := h
  refine (switchyardref15_Is.calls c true w ?_).mono ?_
  · unfold switchyardref15_Is.f
    rw [if_pos h1]
    simp [h2]
  · rintro e w' ⟨rfl, hd⟩
    exact ⟨rfl, hd.below⟩
theorem is_no (c : Int) (h : ¬ isNew c) (w : World) : Calls Try.prog 13 #[.int .i64 c] w fun e w' => e = .returned (.bool false) ∧ Below w.heap.size w w' := by
  refine (switchyardref15_Is.calls c false w ?_).mono ?_
  · unfold switchyardref15_Is.f
    unfold isNew at h
    by_cases h1 : c ≥ 1
    · rw [if_pos h1]
      have : ¬ c ≤ 64 := by omega
      simp [this]
    · rw [if_neg h1]
  · rintro e w' ⟨rfl, hd⟩
    exact ⟨rfl, hd.below⟩

theorem make_run (c : Int) (h : isNew c) (W : World) :
    (Instr.makeSlice 39 (.int .i64 c) (.int .i64 c)).run Try.prog W = .ok (.slice (some ⟨W.heap.size, 0, none⟩) (absT (newTb c)).length c.toNat) (W.alloc (.cells (madeCells #[.int .i64 0, .bool false] (c.toNat * 2)) 56)) := by
  rw [new_abs c h, List.length_replicate]
  obtain ⟨h1, h2⟩ := h
  obtain ⟨i, hi, hz⟩ := Option.map_eq_some_iff.1 PGrantPlays.info56
  simp only [Prod.mk.injEq] at hz
  obtain ⟨hz0, hz1, hz2⟩ := hz
  have := run_make (P := Try.prog) W 39 56 i (.agg #[.int .i64 0, .bool false]) Try.underlying39 hi hz0 .i64 .i64 c c (by omega) (by omega) (by rw [hz2]; omega) (by omega)
  rw [hz1] at this
  exact this
theorem make_row (c : Int) (h : isNew c) (W : World) :
    Sg (W.alloc (.cells (madeCells #[.int .i64 0, .bool false] (c.toNat * 2)) 56)) W.heap.size (.slice (some ⟨W.heap.size, 0, none⟩) (absT (newTb c)).length c.toNat) (absT (newTb c)) := by
  obtain ⟨h1, h2⟩ := h
  rw [new_abs c ⟨h1, h2⟩, List.length_replicate]
  refine ⟨fun _ _ => trivial, (madeCells #[.int .i64 0, .bool false] (c.toNat * 2)).toList, ?_, ?_⟩
  · rw [List.length_replicate]
    exact World.ownsRow_lit (base := W.heap.size) (e := 56) (size := 2) W _ c.toNat (Nat.le_refl _) (by show c.toNat ≤ 9223372036854775807; omega) (by simp [size_madeCells])
  · exact Kd.reps_made (z := .agg #[.int .i64 0, .bool false]) (size := 2) (z0 := z56) rfl (by decide) (k56_mkM _ _ _ z56) c.toNat

set_option maxHeartbeats 1000000 in
theorem rdrop_any (k : Tb) (ok : k.Ok) (x : Int) (A : Option Addr) (cap B : Nat) (w : World) (h : Sg w B (.slice A (absT k).length cap) (absT k)) (hB : B ≤ w.heap.size) :
    Calls Try.prog 23 #[.slice A (absT k).length cap, .int .i64 x] w fun e w' => ∃ A' cap', e = .returned (.tuple #[.slice A' (absT (dropR k x).1).length cap', .int .i64 (dropR k x).2]) ∧ Sg w' B (.slice A' (absT (dropR k x).1).length cap') (absT (dropR k x).1) ∧ Below w.heap.size w w' := by
  have hn1 := ok.n1
  have HX := Lib.hid (rslot_any k ok x A cap B w h)
  by_cases hg : good k x
  · have e1 : dropR k x = (k.hold (x % 64).toNat false, 0) := by unfold dropR; rw [if_pos hg]
    have e2 : slotR k x = (x % 64, true) := by unfold slotR; rw [if_pos hg]
    have hj0 : 0 ≤ x % 64 := by omega
    have hj1 : x % 64 < k.n := hg.1
    rw [e1]
    rw [e2] at HX
    generalize x % 64 = j at *
    have hlen : j < ((absT k).length : Int) := by rw [abs_len]; omega
    obtain ⟨ad, e, g0, g1⟩ := at_T56 h.c.2.2 j hj0 hlen
    subst e
    rw [abs_at k j hj0 hj1] at g0
    dsimp only at g0
    have hset : (absT k).set j.toNat ⟨k.gens.getD j.toNat 0, false⟩ = absT (k.hold j.toNat false) :=
      abs_set k (k.hold j.toNat false) rfl j.toNat (by omega) _ (fun m hm => by
        by_cases e : j.toNat = m
        · subst e; rw [if_pos rfl]; rfl
        · rw [if_neg e]; rfl) (fun m hm => hold_at ok j.toNat m false (by omega))
    have HSET := Lib.hid hset; clear hset
    generalize k.gens.getD j.toNat 0 = y at *
    clear hg e1 e2 g1
    have HN := Lib.hid hj1; clear hj1
    go_enter Try.func23, Try.ntmps23
    go_wp2_with fail
    refine HX.out.mono ?_
    rintro e w1 ⟨rfl, hB1⟩
    have k0 := (hB1.cell (World.block_lt_of_cell? w _ g0)).trans g0
    have hs1 := hB1.size
    have HS := Lib.hid (h.below hB1)
    have HB := Lib.hid hB1; clear hB1
    go_wp2_with fail
    refine (rwith_any k (k.hold j.toNat false) ok j y false hj0 HN.out HSET.out (some ad) cap B _ HS.out (by omega)).mono ?_
    rintro e w2 ⟨A', cap', rfl, hS, hB2⟩
    have HR := Lib.hid hS; clear hS
    have HB2 := Lib.hid (HB.out.trans (hB2.mono hs1)); clear hB2
    go_wp2_with fail
    go_ret2
    exact ⟨A', cap', rfl, HR.out, HB2.out⟩
  · have e1 : dropR k x = (k, 7) := by unfold dropR; rw [if_neg hg]
    have e2 : slotR k x = (0, false) := by unfold slotR; rw [if_neg hg]
    rw [e1]
    rw [e2] at HX
    clear hg e1 e2
    go_enter Try.func23, Try.ntmps23
    go_wp2_with fail
    refine HX.out.mono ?_
    rintro e w1 ⟨rfl, hB1⟩
    have HB := Lib.hid hB1; clear hB1
    go_wp2_with fail
    go_ret2
    exact ⟨A, cap, rfl, h.below HB.out, HB.out⟩

end Go.Proofs.Ytgkjiemjghmgmaa.Grants
