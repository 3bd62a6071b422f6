/- LocksPlay: the walk of the law: whatever the numbers and the calls, it comes to true, and what was there in memory is as it was. -/
import Derived.Test.YtloifnnofldgmaaPlayLike
import Derived.Test.YtloifnnofldgmaaOps
namespace Go.Proofs.Ytloifnnofldgmaa.Locks
set_option linter.unusedVariables false
set_option linter.unusedSimpArgs false
open Go.RowKit Go.Proofs.Ytloifnnofldgmaa.PLocksPlay Go.Proofs.YtloifnnofldgmaaW.PrintWords

theorem doR_cores (k : Bk) (kind c i : Int) : (doR k kind c i).1.cores = k.cores := by
  unfold doR tryR freeR relR
  repeat' split
  all_goals rfl

theorem sameB_abs (k k' : Bk) (f : k.Fit) (f' : k'.Fit) (hc : k'.cores = k.cores) (hn : k'.n = k.n) : sameB k k' = decide (abs k' = abs k) := by
  unfold sameB
  rw [hc, hn]
  simp only [decide_true, Bool.true_and]
  by_cases h : k.own = k'.own
  · have : abs k' = abs k := by unfold abs; rw [h, hn]
    simp [h, this]
  · have : abs k' ≠ abs k := by
      intro he
      apply h
      apply List.ext_getElem
      · rw [f.ok.len, f'.ok.len]
      · intro j h1 h2
        have g1 : k.own.getD j 0 = k.own[j] := by simp [List.getD_eq_getElem?_getD, h1]
        have g2 : k'.own.getD j 0 = k'.own[j] := by simp [List.getD_eq_getElem?_getD, h2]
        rw [← g1, ← g2]
        by_cases hj : j < k.n.toNat
        · have e1 := abs_at k j hj
          have e2 := abs_at k' j (by rw [hn]; exact hj)
          rw [he] at e2
          omega
        · have := f.ok.n0
          rw [f.end_ j (by omega), f'.end_ j (by rw [hn]; omega)]
    simp [h, this]

theorem same_of (A1 : Option Addr) (c1 : Nat) (l1 : List Int) (A2 : Option Addr) (c2 : Nat) (l2 : List Int) (w : World) (h1 : l1.length ≤ c1) (h2 : l2.length ≤ c2) (hC1 : Kd.C (Kd.int .i64) w A1 l1.length l1) (hC2 : Kd.C (Kd.int .i64) w A2 l2.length l2) (hl : l1.length < 999) :
    Calls Try.prog 17 #[.slice A1 l1.length c1, .slice A2 l2.length c2] w fun e w' => e = .returned (.bool (decide (l1 = l2))) ∧ Below w.heap.size w w' := by
  refine (switchyardref03_Same.calls 1000 A1 c1 l1 A2 c2 l2 _ w hC1 h1 hC2 h2 (same_eq l1 l2 1000 (by omega) (by omega))).mono ?_
  rintro e w' ⟨rfl, hd⟩
  exact ⟨rfl, hd.below⟩

theorem is_yes (c n : Int) (h : isNew c n) (w : World) : Calls Try.prog 11 #[.int .i64 c, .int .i64 n] w fun e w' => e = .returned (.bool true) ∧ Below w.heap.size w w' := by
  obtain ⟨h1, h2, h3, h4⟩ := h
  refine (switchyardref10_Is.calls c n true w ?_).mono ?_
  · unfold switchyardref10_Is.f
    rw [if_pos h1, if_pos h2, if_pos h3]
    simp [h4]
  · rintro e w' ⟨rfl, hd⟩
    exact ⟨rfl, hd.below⟩
theorem is_no (c n : Int) (h : ¬ isNew c n) (w : World) : Calls Try.prog 11 #[.int .i64 c, .int .i64 n] w fun e w' => e = .returned (.bool false) ∧ Below w.heap.size w w' := by
  refine (switchyardref10_Is.calls c n false w ?_).mono ?_
  · unfold switchyardref10_Is.f
    unfold isNew at h
    by_cases h1 : c ≥ 1
    · rw [if_pos h1]
      by_cases h2 : c ≤ 8
      · rw [if_pos h2]
        by_cases h3 : n ≥ 1
        · rw [if_pos h3]
          have : ¬ n ≤ 16 := by omega
          simp [this]
        · rw [if_neg h3]
      · rw [if_neg h2]
    · rw [if_neg h1]
  · rintro e w' ⟨rfl, hd⟩
    exact ⟨rfl, hd.below⟩

theorem new_ref (c n : Int) (h : isNew c n) (w : World) : Calls Try.prog 12 #[.int .i64 c, .int .i64 n] w fun e w' => ∃ A cap, e = .returned (.agg #[.int .i64 c, .slice A (abs (newBk c n)).length cap]) ∧ Sl w' w.heap.size (.slice A (abs (newBk c n)).length cap) (abs (newBk c n)) ∧ Below w.heap.size w w' := by
  refine (switchyardref10_New.calls 20 c n _ _ w (new_eq c n h)).mono ?_
  rintro e w' ⟨v, rfl, hR, hb⟩
  obtain ⟨A, cap, rfl, hc, hC⟩ := Kd.R_reads hR
  exact ⟨A, cap, rfl, hR, hb⟩

/-- The reference's bank, in a block. -/
structure Rb (u : World) (x B : Nat) (k : Bk) (A : Option Addr) (cap : Nat) : Prop where
  box : u.heap[x]? = some (.cells #[.int .i64 k.cores, .slice A (abs k).length cap] 38 (0, 0))
  sl : Sl u B (.slice A (abs k).length cap) (abs k)

theorem Rb.below {u u' : World} {x B : Nat} {k : Bk} {A : Option Addr} {cap : Nat} (h : Rb u x B k A cap) (hb : Below u.heap.size u u') : Rb u' x B k A cap :=
  ⟨(hb.block x (lt_of_block h.box)).trans h.box, h.sl.below hb⟩
theorem Rb.grown {u u' : World} {x B b : Nat} {k : Bk} {A : Option Addr} {cap : Nat} (h : Rb u x B k A cap) (hg : u.grownBy u' (some b)) (hx : x ≠ b) (hb : b < B) : Rb u' x B k A cap :=
  ⟨(hg.block x (lt_of_block h.box) (by simpa using hx)).trans h.box, h.sl.grown hg hb⟩
theorem Rb.c0 {u : World} {x B : Nat} {k : Bk} {A : Option Addr} {cap : Nat} (h : Rb u x B k A cap) : u.cell? ⟨x, 0, none⟩ = some (.int .i64 k.cores) := (blk_cell h.box 0).trans rfl
theorem Rb.c1 {u : World} {x B : Nat} {k : Bk} {A : Option Addr} {cap : Nat} (h : Rb u x B k A cap) : u.cell? ⟨x, 1, none⟩ = some (.slice A (abs k).length cap) := (blk_cell h.box 1).trans rfl
theorem At.below {u u' : World} {b : Nat} {k : Bk} (h : At u b k) (hb : Below u.heap.size u u') : At u' b k := (hb.block b (lt_of_block h)).trans h

theorem ref_do (k : Bk) (f : k.Fit) (kind c i : Int) (x B : Nat) (A : Option Addr) (cap : Nat) (w : World) (h : Rb w x B k A cap) (hB : B ≤ w.heap.size) :
    Calls Try.prog 13 #[.agg #[.int .i64 k.cores, .slice A (abs k).length cap], .agg #[.int .i64 kind, .int .i64 c, .int .i64 i]] w fun e w' => ∃ A' cap', e = .returned (.tuple #[.agg #[.int .i64 k.cores, .slice A' (abs (doR k kind c i).1).length cap'], .int .i64 (doR k kind c i).2.1, .int .i64 (doR k kind c i).2.2]) ∧ Sl w' B (.slice A' (abs (doR k kind c i).1).length cap') (abs (doR k kind c i).1) ∧ Below w.heap.size w w' := by
  refine (ref_any k f kind c i _ B w h.sl hB).mono ?_
  rintro e w' ⟨v', rfl, hs, hb⟩
  obtain ⟨A', cap', rfl, -, -⟩ := hs.open_
  exact ⟨A', cap', rfl, hs, hb⟩

end Go.Proofs.Ytloifnnofldgmaa.Locks
