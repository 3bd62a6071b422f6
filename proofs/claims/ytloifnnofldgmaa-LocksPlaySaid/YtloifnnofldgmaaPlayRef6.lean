/- Locks: the contract of the reference's Do: the call that takes all locks from a core. -/
import Derived.Test.YtloifnnofldgmaaPlayRef5
import Derived.StillTailTactics
namespace Go.Proofs.Ytloifnnofldgmaa.Locks
set_option linter.unusedVariables false
set_option linter.unusedSimpArgs false
open Go.RowKit Go.Proofs.Ytloifnnofldgmaa.PLocksPlay Go.Proofs.YtloifnnofldgmaaW.PrintWords

theorem held_in {k : Bk} (f : k.Fit) {c x : Int} (hc : coreE k.cores c = 0) (h : x ∈ heldR k c) : 0 ≤ x ∧ x < k.n := by
  unfold heldR at h
  rw [if_pos hc] at h
  obtain ⟨j, hj, rfl, ho⟩ := heldTo_mem _ _ _ _ h
  refine ⟨by omega, ?_⟩
  have hc0 : 0 ≤ c := by
    unfold coreE at hc
    by_cases q : 0 ≤ c ∧ c < k.cores
    · exact q.1
    · rw [if_neg q] at hc; omega
  rcases Int.lt_or_le (j : Int) k.n with h1 | h1
  · exact h1
  · have := f.end_ j h1; omega

theorem less_take {k : Bk} (f : k.Fit) (l : List Int) (hl : ∀ x ∈ l, 0 ≤ x ∧ x < k.n) (m : Nat) (hm : m < l.length) :
    (k.less (l.take m)).Fit ∧ (k.less (l.take m)).n = k.n ∧ (k.less (l.take m)).cores = k.cores ∧ 0 ≤ rd l m ∧ rd l m < k.n ∧ abs (k.less (l.take (m + 1))) = (abs (k.less (l.take m))).set (rd l m).toNat (-1) := by
  have hx : l[m] = rd l m := by unfold rd; rw [Int.toNat_natCast, List.getD_eq_getElem?_getD, List.getElem?_eq_getElem hm]; rfl
  obtain ⟨h0, h1⟩ := hl l[m] (List.getElem_mem hm)
  have hf : (k.less (l.take m)).Fit := less_fit f _ fun x hx => ⟨x.toNat, by have := hl x (List.mem_of_mem_take hx); omega⟩
  rw [hx] at h0 h1
  refine ⟨hf, rfl, rfl, h0, h1, ?_⟩
  rw [List.take_succ_eq_append_getElem hm, hx]
  obtain ⟨j, hj⟩ : ∃ j : Nat, rd l m = (j : Int) := ⟨(rd l m).toNat, by omega⟩
  rw [hj, less_snoc, abs_put hf j 0 (by show (j : Int) < k.n; omega), Int.toNat_natCast]
  rfl

set_option maxHeartbeats 2000000 in
theorem ref_rel (k : Bk) (f : k.Fit) (c i : Int) (v : Value) (B : Nat) (w : World) (hs : Sl w B v (abs k)) (hB : B ≤ w.heap.size) (hc0 : 0 ≤ c) (hc1 : c < k.cores) :
    Calls Try.prog 13 #[.agg #[.int .i64 k.cores, v], .agg #[.int .i64 3, .int .i64 c, .int .i64 i]] w fun e w' => ∃ v', e = .returned (.tuple #[.agg #[.int .i64 k.cores, v'], .int .i64 ((heldR k c).length : Int), .int .i64 0]) ∧ Sl w' B v' (abs (k.less (heldR k c))) ∧ Below w.heap.size w w' := by
  obtain ⟨A, cap, rfl, hcap, hC⟩ := hs.open_
  have hcE : coreE k.cores c = 0 := by unfold coreE; rw [if_pos ⟨hc0, hc1⟩]
  have HIN := Lib.hid (fun x hx => held_in (x := x) f hcE hx)
  have HEQ := Lib.hid (held_eq k f c 20 (by omega))
  have hlen : (heldR k c).length ≤ 16 := by unfold heldR; rw [if_pos hcE]; exact heldTo_len _ _ _
  generalize heldR k c = l at *
  clear hcE
  by_cases hi : i < 0
  all_goals
    go_enter Try.func13, Try.ntmps13
    go_wp2_with fail
    refine (switchyardref10_Held.calls 20 k.cores A cap (abs k) c l _ (Kd.C_below hC (three w _ _ _)) hcap HEQ.out).mono ?_
    rintro e w1 ⟨vl, rfl, hR, hB1⟩
    obtain ⟨A9, cap9, rfl, hcap9, hC9⟩ := Kd.R_reads hR
    have hx0 := (hB1.block w.heap.size (by simp; omega)).trans (first_ w _ _ _)
    have hx2 := (hB1.block (w.heap.size + 1 + 1) (by simp)).trans (third w _ _ _)
    have hT := (three w _ _ _).trans (hB1.mono (by simp; omega))
    have hS1 := (hs.below (three w _ _ _)).below hB1
    have hR9 : Sl w1 w.heap.size (.slice A9 l.length cap9) l := Sl.new hR (by simp; omega)
    have hz1 : w.heap.size + 2 < w1.heap.size := by have := hB1.size; simp at this; omega
    clear hB1 hR hC9
    have HS := Lib.hid hs; clear hs
    go_wp2_with fail
    go_loopw [10] (fun vj wr => ∃ (m : Nat) (A2 : Option Addr) (cap2 : Nat), m ≤ l.length ∧ vj = .int .i64 m ∧ Sl wr B (.slice A2 (abs (k.less (l.take m))).length cap2) (abs (k.less (l.take m))) ∧ wr.heap[w.heap.size]? = some (.cells #[.int .i64 k.cores, .slice A2 (abs (k.less (l.take m))).length cap2] 38 (0, 0)) ∧ wr.heap[w.heap.size + 1 + 1]? = some (.cells #[.int .i64 0, .slice none 0 0] 38 (0, 0)) ∧ Sl wr w.heap.size (.slice A9 l.length cap9) l ∧ Below w.heap.size w wr ∧ w.heap.size + 2 < wr.heap.size)
      (fun vj _ => l.length - (intOf vj).toNat)
    case atStart => exact ⟨0, A, cap, by omega, rfl, hS1, hx0, hx2, hR9, hT, hz1⟩
    case round =>
      obtain ⟨m, A2, cap2, hm, rfl, hS2, hy0, hy2, hL, hT2, hz2⟩ := hrel
      clear hS1 hx0 hx2 hR9 hT
      by_cases hlt : m < l.length
      · obtain ⟨g1, g2, g3, g4, g5, g6⟩ := less_take f l HIN.out m hlt
        obtain ⟨ad, rfl, hcell⟩ := hL.at_ (m : Int) (by omega) (by omega)
        rw [Int.toNat_natCast] at hcell
        have hw := with_eq (k.less (l.take m)) g1 (rd l m) (-1) g4 (by rw [g2]; exact g5)
        rw [g3, ← g6] at hw
        have HW := Lib.hid hw; clear hw
        obtain ⟨A2', cap2', he, hcap2, hC2⟩ := hS2.open_
        injection he with e1 e2 e3
        subst e1 e3
        clear e2 g6 g1 g2 g3
        generalize rd l m = x at *
        generalize hy : abs (k.less (l.take m)) = y at *
        generalize hy' : abs (k.less (l.take (m + 1))) = y' at *
        have HY := Lib.hid hy; clear hy
        have HY' := Lib.hid hy'; clear hy'
        have a0 : wr.cell? ⟨w.heap.size, 0, none⟩ = some (.int .i64 k.cores) := (blk_cell hy0 0).trans rfl
        have a1 : wr.cell? ⟨w.heap.size, 1, none⟩ = some (.slice A2 y.length cap2) := (blk_cell hy0 1).trans rfl
        have d0 : wr.drew.cell? ⟨w.heap.size, 0, none⟩ = some (.int .i64 k.cores) := a0
        have d1 : wr.drew.cell? ⟨w.heap.size, 1, none⟩ = some (.slice A2 y.length cap2) := a1
        have d2 : wr.drew.cell? (ad.add m) = some (.int .i64 x) := hcell
        have hm0 : (0 : Int) ≤ (m : Int) := by omega
        have hm1 : (m : Int) < (l.length : Int) := by omega
        have H0 := Lib.hid hy0; clear hy0
        have H2 := Lib.hid hy2; clear hy2
        have HS2 := Lib.hid hS2; clear hS2
        have HLL := Lib.hid hL; clear hL
        have HT2 := Lib.hid hT2; clear hT2
        go_wp2_with fail
        refine wp_region_still_tail 5 (by kernel_rfl) (by kernel_rfl) ?_
        simp only [List.take_succ_cons, List.take_zero, List.drop_succ_cons, List.drop_zero]
        change wpStill _ _ wr.drew _ _ _
        repeat still_step
        refine wpStill_nil ?_
        change wpList _ _ _ _ _ wr.drew
        go_wp2_with fail
        refine (switchyardref10_with.calls k.cores A2 cap2 y x (-1) _ _ _ (Kd.C_below hC2 (Below.refl _ _).drew) hcap2 HW.out).mono ?_
        rintro e w2 ⟨v1, rfl, hR1, hB1⟩
        obtain ⟨A1, cap1, rfl, hcap1, hC1⟩ := Kd.R_reads hR1
        have hB2 : Below wr.heap.size wr w2 := (Below.refl wr.heap.size wr).drew.trans hB1
        have hs2 : wr.heap.size ≤ w2.heap.size := hB2.size
        have q0 := (hB2.block w.heap.size (by omega)).trans H0.out
        have q2 := (hB2.block (w.heap.size + 1 + 1) (by omega)).trans H2.out
        have z0 := (blk_cell q0 0).trans rfl
        have z1 := (blk_cell q0 1).trans rfl
        have f0 := blk_frozen q0 0
        have f1 := blk_frozen q0 1
        have HQ0 := Lib.hid q0; clear q0
        have HQ2 := Lib.hid q2; clear q2
        have HLL2 := Lib.hid (HLL.out.below hB2)
        have HT3 := Lib.hid (HT2.out.trans (hB2.mono (by omega)))
        have HS3 := Lib.hid (Sl.new (B := B) hR1 (by show B ≤ wr.heap.size; omega))
        clear hR1 hB1 hB2 hC1
        go_wp2_with fail
        go_roundw
        case rel =>
          have hb2 := blk_put HQ0.out 0 (.int .i64 k.cores) rfl
          refine ⟨m + 1, A1, cap1, by omega, by simp, ?_, ?_, ?_, ?_, (HT3.out.setCell (Nat.le_refl _) _).setCell (Nat.le_refl _) _, by simp; omega⟩
          · rw [HY'.out]
            exact (HS3.out.set ⟨w.heap.size, 0, none⟩ _ ⟨_, _, HQ0.out, by decide⟩).set ⟨w.heap.size, 1, none⟩ _ ⟨_, _, hb2, by decide⟩
          · rw [HY'.out]
            exact two_put _ _ HQ0.out
          · rw [Below.heap_setCell _ _ _ _ (by show w.heap.size + 1 + 1 ≠ w.heap.size; omega), Below.heap_setCell _ _ _ _ (by show w.heap.size + 1 + 1 ≠ w.heap.size; omega)]
            exact HQ2.out
          · exact (HLL2.out.set ⟨w.heap.size, 0, none⟩ _ ⟨_, _, HQ0.out, by decide⟩).set ⟨w.heap.size, 1, none⟩ _ ⟨_, _, hb2, by decide⟩
        case measure =>
          simp only [intOf]
          omega
      · have hml : m = l.length := by omega
        subst hml
        rw [List.take_length] at hS2 hy0
        have a0 : wr.cell? ⟨w.heap.size, 0, none⟩ = some (.int .i64 k.cores) := (blk_cell hy0 0).trans rfl
        have a1 : wr.cell? ⟨w.heap.size, 1, none⟩ = some (.slice A2 (abs (k.less l)).length cap2) := (blk_cell hy0 1).trans rfl
        have a2 : wr.cell? ⟨w.heap.size + 1 + 1, 0, none⟩ = some (.int .i64 0) := (blk_cell hy2 0).trans rfl
        have a3 : wr.cell? ⟨w.heap.size + 1 + 1, 1, none⟩ = some (.slice none 0 0) := (blk_cell hy2 1).trans rfl
        have f2 : wr.frozen? ⟨w.heap.size + 1 + 1, 0, none⟩ = false := blk_frozen hy2 0
        have f3 : wr.frozen? ⟨w.heap.size + 1 + 1, 1, none⟩ = false := blk_frozen hy2 1
        have H2 := Lib.hid hy2; clear hy2 hy0
        have HS2 := Lib.hid hS2; clear hS2
        have HT2 := Lib.hid hT2; clear hT2
        generalize hy : abs (k.less l) = y at *
        have HY := Lib.hid hy; clear hy
        go_wp2_with fail
        refine bodyPost_ret (results_ctt rfl _ _ (w.heap.size + 1 + 1) 38 _ (0, 0) _ rfl (two_put _ _ H2.out) Try.underlying38 rfl (by kernel_rfl)) rfl ?_
        refine ⟨_, rfl, ?_, (HT2.out.setCell (by show _ ≤ w.heap.size + 1 + 1; omega) _).setCell (by show _ ≤ w.heap.size + 1 + 1; omega) _⟩
        rw [HY.out]
        exact (HS2.out.set ⟨w.heap.size + 1 + 1, 0, none⟩ _ ⟨_, _, H2.out, by decide⟩).set ⟨w.heap.size + 1 + 1, 1, none⟩ _ ⟨_, _, blk_put H2.out 0 _ rfl, by decide⟩

end Go.Proofs.Ytloifnnofldgmaa.Locks
