/- GrantOnce: the walk of the law: whatever the number and the calls, it comes to true, and what was there in memory is as it was. -/
import Derived.Test.YtgkjiemjghmgmaaOnceStep
namespace Go.Proofs.Ytgkjiemjghmgmaa.Grants
set_option linter.unusedVariables false
set_option linter.unusedSimpArgs false
open Go.RowKit Go.Proofs.YtgkjiemjghmgmaaW.PrintWords

/-- The good ones are forgotten. -/
theorem GO.dropD {w u : World} {k : Tb} {vg vd : Value} {gn gd : List Int} (h : GO w k vg vd gn gd u) : GO w k vg (.slice none 0 0) gn [] u :=
  ⟨h.at_, Kd.R_mono h.g (fun k _ => by simp [Value.ownBlock]), Rw.nil _ _ _, h.bel⟩

/-- The good ones lie anew. -/
theorem GO.newD {w u u' : World} {k : Tb} {vg vd v' : Value} {gn gd gd' : List Int} (h : GO w k vg vd gn gd u) (hB : Below u.heap.size u u') (hR : Kd.R (Kd.int .i64) 3 u' u.heap.size (fun _ => True) v' gd') : GO w k vg v' gn gd' u' := by
  have hs := lt_of_block h.at_
  refine ⟨(h.below hB).at_, Kd.R_mono (Kd.R_below (Kd.R_bound h.g) hB) (fun q hq e => ?_), Kd.R_mono (Kd.R_lower (Kd.R_bound hR) (by omega)) (fun q hq e => ?_), (h.below hB).bel⟩
  · have h1 := (Kd.R_bound hR).1 q e.symm
    have h2 := hq.2.2.1
    omega
  · have h1 := (Kd.R_bound h.g).1 q e.symm
    have h2 := hq.2.1
    omega

set_option maxHeartbeats 4000000 in
set_option maxRecDepth 100000 in
theorem once_walk (n : Int) (A : Option Addr) (len cap : Nat) (ops : List (List Int)) (w : World) (ho : Ops.OpsAt w w.heap.size 2 (.slice A len cap) ops) :
    Calls Try.prog 3 #[.int .i64 n, .slice A len cap] w fun e w' => e = .returned (.bool true) ∧ Below w.heap.size w w' := by
  obtain ⟨A', len', cap', hv, hol, hlm, hall, hcells⟩ := ho
  injection hv with e1 e2 e3
  subst e1 e2 e3
  unfold maxLen at hlm
  have HALL := Lib.hid hall; clear hall
  have HOL := Lib.hid hol; clear hol
  have HC := Lib.hid hcells; clear hcells
  have heq := once_neq
  have heq2 := once_nil
  by_cases hn : isNew n
  · by_cases h1 : 150 < len
    · go_enter Try.func3, Try.ntmps3
      go_wp2_with fail
      refine (new_yes n _ hn).mono ?_
      rintro e w1 ⟨rfl, hA1, hB1, hs1⟩
      go_wp2_with fail
      refine (alive_any _).mono ?_
      rintro e w' ⟨rfl, hBa⟩
      have hBt := hB1.trans (hBa.mono hB1.size)
      clear hBa
      go_wp2_with fail
      go_ret
      exact ⟨rfl, hBt⟩
    · have I0 := inv_new hn
      go_enter Try.func3, Try.ntmps3
      go_wp2_with fail
      refine (new_yes n _ hn).mono ?_
      rintro e w1 ⟨rfl, hA1, hB1, hs1⟩
      have G0 : GO w (newTb n) (.slice none 0 0) (.slice none 0 0) [] [] w1 := ⟨hA1, Rw.nil _ _ _, Rw.nil _ _ _, hB1⟩
      have HG0 := Lib.hid G0; clear G0 hA1 hB1
      go_wp2_with fail
      go_loopw [33, 6, 7] (fun j vg vd wr => ∃ (m : Nat) (k : Tb) (gn gd : List Int), m ≤ len ∧ j = .int .i64 m ∧ Inv k gn gd m ∧ gn.length + gd.length ≤ m ∧ GO w k vg vd gn gd wr)
        (fun j _ _ _ => len - (intOf j).toNat)
      case atStart => exact ⟨0, newTb n, [], [], by omega, rfl, I0, by simp, HG0.out⟩
      case round =>
        obtain ⟨m, k, gn, gd, hm, rfl, I, hlen, hG⟩ := hrel
        clear HG0 I0
        obtain ⟨Ag, cg, rfl, hcg, hCg⟩ := Kd.R_reads hG.g
        obtain ⟨Ad, cd, rfl, hcd, hCd⟩ := Kd.R_reads hG.d
        have HI := Lib.hid I; clear I
        by_cases hlt : m < len
        · obtain ⟨b0, off, rfl, hb0, hcell⟩ := HC.out (by omega)
          have g0 := hcell m 0 hlt (by omega)
          have g1 := hcell m 1 hlt (by omega)
          clear hcell
          generalize (ops.getD m []).getD 0 0 = o0 at *
          generalize (ops.getD m []).getD 1 0 = o1 at *
          have q0 : wr.cell? ⟨b0, off + m * 2, none⟩ = some (.int .i64 o0) := (hG.bel.cell (p := ⟨b0, off + m * 2, none⟩) hb0).trans g0
          have q1 : wr.cell? ⟨b0, off + m * 2 + 1, none⟩ = some (.int .i64 o1) := (hG.bel.cell (p := ⟨b0, off + m * 2 + 1, none⟩) hb0).trans g1
          clear g0 g1
          have hbounds : m < 9223372036854775807 := by omega
          have hsz : w.heap.size < wr.heap.size := lt_of_block hG.at_
          have HG1 := Lib.hid (hG.below ((Below.refl wr.heap.size wr).alloc (Nat.le_refl _) (.cells #[.int .i64 o0, .int .i64 o1] 28)))
          clear hG hCg hCd
          by_cases h0 : o0 = 0
          · subst h0
            have hAg := HG1.out.at_
            have hok := HI.out.ok
            have hcX : (wr.alloc (.cells #[.int .i64 0, .int .i64 o1] 28)).cell? ⟨wr.heap.size, 1, none⟩ = some (.int .i64 o1) := by unfold World.cell?; dsimp only; rw [heap_alloc_new]; rfl
            go_wp2_with fail
            refine (give_any w.heap.size o1 k _ hAg hok).mono ?_
            rintro e2 u2 ⟨rfl, hA2, hG2⟩
            have hcX2 : u2.cell? ⟨wr.heap.size, 1, none⟩ = some (.int .i64 o1) := by
              rw [← hcX]
              unfold World.cell?
              dsimp only
              rw [hG2.block wr.heap.size (by simp) (by simp; omega)]
            have hs2 : wr.heap.size < u2.heap.size := by have := hG2.size; simp at this; omega
            clear hcX hok
            by_cases hgv : (giveR k o1).2.2 = false
            · rw [give_out hgv] at hA2
              rw [give_out hgv]
              have HG2 := Lib.hid (HG1.out.do_ hA2 hG2)
              clear hA2 hG2 hAg hcX2
              have HLL := Lib.hid (show gn.length + gd.length ≤ m + 1 by omega)
              clear HG1
              have hgl : (gn).length ≤ 300 := by have := HLL.out; omega
              go_wp2_with fail
              go_loopw [128] (fun j u => ∃ q : Nat, q ≤ (gn).length ∧ j = .int .i64 q ∧ GO w k (.slice Ag (gn).length cg) (.slice Ad gd.length cd) (gn) (gd) u)
                (fun j _ => (gn).length - (intOf j).toNat)
              case atStart => exact ⟨0, by omega, rfl, HG2.out⟩
              case round =>
                obtain ⟨q, hq, rfl, hGq⟩ := hrel
                clear HG2
                by_cases hql : q < (gn).length
                · obtain ⟨adg, e, hgc⟩ := Kd.at_int hGq.g.c.2.2 (q : Int) (by omega) (by omega)
                  have hmem : rd (gn) (q : Int) ∈ (gn) := rd_mem _ _ (by omega) (by omega)
                  obtain ⟨hs1, hs2⟩ := inv_gone HI.out _ hmem
                  rw [Int.toNat_natCast] at hgc
                  generalize rd (gn) (q : Int) = x at *
                  have hq0 : (0 : Int) ≤ (q : Int) := by omega
                  have hq1 : (q : Int) < ((gn).length : Int) := by omega
                  have hq63 : q < 9223372036854775807 := by have := hgl; omega
                  have hAq := hGq.at_
                  have HGq := Lib.hid hGq; clear hGq
                  have HS1 := Lib.hid hs1; clear hs1
                  have HS2 := Lib.hid hs2; clear hs2
                  clear hmem
                  subst e
                  go_wp2_with fail
                  refine (slot_any w.heap.size x k _ hAq HI.out.ok).mono ?_
                  rintro e2 u2 ⟨rfl, rfl⟩
                  rw [HS1.out]
                  go_wp2_with fail
                  refine (drop_any w.heap.size x k _ hAq HI.out.ok).mono ?_
                  rintro e3 u3 ⟨rfl, hA3, hG3⟩
                  rw [HS2.out] at hA3
                  rw [HS2.out]
                  have HG3 := Lib.hid (HGq.out.do_ hA3 hG3)
                  clear hA3 hG3 hAq
                  go_wp2_with fail
                  go_roundw
                  case rel => exact ⟨q + 1, by omega, by go_num, HG3.out⟩
                  case measure => simp [intOf]; omega
                · have hAq := hGq.at_
                  have HGq := Lib.hid hGq; clear hGq
                  go_wp2_with fail
                  refine (pheld_any w.heap.size k HI.out.ok _ hAq).mono ?_
                  rintro e4 u4 ⟨A4, cap4, rfl, hc4, hC4, hB4⟩
                  have HG4 := Lib.hid (HGq.out.below hB4)
                  have hle4 : (heldR k).length = gd.length := HI.out.len
                  rw [hle4]
                  clear hC4 hB4 hAq hle4 hc4
                  go_wp2_with fail
                  go_roundw
                  case rel => exact ⟨m + 1, k, gn, gd, by omega, by go_num, inv_more HI.out, HLL.out, HG4.out⟩
                  case measure => simp [intOf]; omega

            · have hgt : (giveR k o1).2.2 = true := by simpa using hgv
              clear hgv
              obtain ⟨hI2, hne, hsl⟩ := inv_give HI.out (by omega) o1 hgt
              have hg2 := HG1.out.do_ hA2 hG2
              rw [hgt]
              generalize (giveR k o1).1 = k' at *
              generalize (giveR k o1).2.1 = h at *
              obtain ⟨gA, hgA⟩ : ∃ l, l = gn ++ gd := ⟨_, rfl⟩
              rw [← hgA] at hne
              have hlA : gA.length = gn.length + gd.length := by rw [hgA, List.length_append]
              have HGA := Lib.hid hgA; clear hgA
              have HG2 := Lib.hid hg2; clear hg2
              have HI2 := Lib.hid hI2; clear hI2
              have HNE := Lib.hid hne; clear hne
              have HSL := Lib.hid hsl; clear hsl
              clear hA2 hG2 hAg hgt HG1
              go_wp2_with (first
                | (at_builtin; refine Kd.R_append_row (w0 := u2) (Value.int .i64) (0 : Int) (h1 := fun _ => rfl) u2.heap.size rfl _ _ 26 3 (.int .i64 0) 8 rfl Try.underlying26 once_info3 rfl (by decide) (.slice (some ⟨u2.heap.size, 0, none⟩) 0 0) [] gn Ag gn.length cg (fun _ => True) rfl rfl (fun _ _ => trivial) (lit_row u2) (HG2.out.below ((Below.refl _ _).alloc (Nat.le_refl _) _)).g.c.2.2 ((Below.refl _ _).alloc (Nat.le_refl _) _) (by simp) (by simp; omega) ?_; intro v3 u3 hR3 hB3 hg3 hat3; clear hg3 hat3)
                | (at_builtin; refine Kd.R_append_row (w0 := u2) (Value.int .i64) (0 : Int) (h1 := fun _ => rfl) u2.heap.size rfl _ _ 26 3 (.int .i64 0) 8 rfl Try.underlying26 once_info3 rfl (by decide) v3 ([] ++ gn) gd Ad gd.length cd (fun _ => True) rfl rfl (fun _ _ => trivial) hR3 (HG2.out.below hB3).d.c.2.2 hB3 hB3.size (by simp; omega) ?_; intro v4 u4 hR4 hB4 hg4 hat4; clear hg4 hat4; rw [List.nil_append, ← HGA.out] at hR4; obtain ⟨A4, c4, rfl, hc4, hC4⟩ := Kd.R_reads hR4; have hcX4 := (hB4.cell (p := ⟨wr.heap.size, 1, none⟩) hs2).trans hcX2; have HG4 := Lib.hid (HG2.out.below hB4); clear hR3 hB3 hR4 hB4 hcX2 HG2))
              go_loopw [90] (fun j u => ∃ q : Nat, q ≤ gA.length ∧ j = .int .i64 q ∧ u = u4)
                (fun j _ => gA.length - (intOf j).toNat)
              case atStart => exact ⟨0, by omega, rfl, rfl⟩
              case round =>
                obtain ⟨q, hq, rfl, rfl⟩ := hrel
                by_cases hql : q < gA.length
                · obtain ⟨adg, e, hgc⟩ := Kd.at_int hC4 (q : Int) (by omega) (by omega)
                  have hmem : rd gA (q : Int) ∈ gA := rd_mem _ _ (by omega) (by omega)
                  have hxh : (rd gA (q : Int) == h) = false := by rw [beq_eq_false_iff_ne]; exact HNE.out _ hmem
                  rw [Int.toNat_natCast] at hgc
                  generalize rd gA (q : Int) = x at *
                  have hq0 : (0 : Int) ≤ (q : Int) := by omega
                  have hq1 : (q : Int) < (gA.length : Int) := by omega
                  have hq63 : q < 9223372036854775807 := by omega
                  clear hmem
                  subst e
                  go_wp2_with fail
                  go_roundw
                  case rel => exact ⟨q + 1, by omega, by go_num, by first | trivial | rfl⟩
                  case measure => simp [intOf]; omega
                · have hA4 := HG4.out.at_
                  clear hC4
                  go_wp2_with fail
                  refine (slot_any w.heap.size h k' _ hA4 HI2.out.ok).mono ?_
                  rintro e5 u5 ⟨rfl, rfl⟩
                  rw [HSL.out]
                  clear hA4
                  obtain ⟨gD, hgD⟩ : ∃ l, l = gd ++ [h] := ⟨_, rfl⟩
                  have hLL : gn.length + gD.length ≤ m + 1 := by
                    rw [hgD, List.length_append]
                    simp only [List.length_cons, List.length_nil]
                    omega
                  have HGD := Lib.hid hgD; clear hgD
                  have HLL := Lib.hid hLL; clear hLL
                  have hI3 := HI2.out
                  rw [← HGD.out] at hI3
                  have HI3 := Lib.hid hI3; clear hI3
                  go_wp2_with (at_builtin; refine Kd.R_append (Kd.int .i64) (w0 := _) (w.heap.size + 1) rfl _ _ 26 3 (.int .i64 0) 8 rfl Try.underlying26 once_info3 rfl (by decide) (by omega) (.slice Ad gd.length cd) gd h [.int .i64 h] (fun k => some k ≠ (Value.slice Ag gn.length cg).ownBlock) (fun _ => False) rfl rfl rfl (fun _ hk => hk.elim) HG4.out.g.fresh HG4.out.d (Below.refl _ _) (Nat.succ_le_of_lt (lt_of_block HG4.out.at_)) (by omega) ?_; intro v5 w5 hR5 hB5 hg5 hat5; rw [← HGD.out] at hR5; obtain ⟨A5, c5, rfl, hc5, hC5⟩ := Kd.R_reads hR5; have HG5 := Lib.hid (HG4.out.growD hR5 hg5 hat5); clear hR5 hB5 hg5 hat5 hC5 HG4 hcX4)
                  have hgl : (gn).length ≤ 300 := by have := HLL.out; omega
                  go_loopw [128] (fun j u => ∃ q : Nat, q ≤ (gn).length ∧ j = .int .i64 q ∧ GO w k' (.slice Ag (gn).length cg) (.slice A5 gD.length c5) (gn) (gD) u)
                    (fun j _ => (gn).length - (intOf j).toNat)
                  case atStart => exact ⟨0, by omega, rfl, HG5.out⟩
                  case round =>
                    obtain ⟨q, hq, rfl, hGq⟩ := hrel
                    clear HG5
                    by_cases hql : q < (gn).length
                    · obtain ⟨adg, e, hgc⟩ := Kd.at_int hGq.g.c.2.2 (q : Int) (by omega) (by omega)
                      have hmem : rd (gn) (q : Int) ∈ (gn) := rd_mem _ _ (by omega) (by omega)
                      obtain ⟨hs1, hs2⟩ := inv_gone HI3.out _ hmem
                      rw [Int.toNat_natCast] at hgc
                      generalize rd (gn) (q : Int) = x at *
                      have hq0 : (0 : Int) ≤ (q : Int) := by omega
                      have hq1 : (q : Int) < ((gn).length : Int) := by omega
                      have hq63 : q < 9223372036854775807 := by have := hgl; omega
                      have hAq := hGq.at_
                      have HGq := Lib.hid hGq; clear hGq
                      have HS1 := Lib.hid hs1; clear hs1
                      have HS2 := Lib.hid hs2; clear hs2
                      clear hmem
                      subst e
                      go_wp2_with fail
                      refine (slot_any w.heap.size x k' _ hAq HI3.out.ok).mono ?_
                      rintro e2 u2 ⟨rfl, rfl⟩
                      rw [HS1.out]
                      go_wp2_with fail
                      refine (drop_any w.heap.size x k' _ hAq HI3.out.ok).mono ?_
                      rintro e3 u3 ⟨rfl, hA3, hG3⟩
                      rw [HS2.out] at hA3
                      rw [HS2.out]
                      have HG3 := Lib.hid (HGq.out.do_ hA3 hG3)
                      clear hA3 hG3 hAq
                      go_wp2_with fail
                      go_roundw
                      case rel => exact ⟨q + 1, by omega, by go_num, HG3.out⟩
                      case measure => simp [intOf]; omega
                    · have hAq := hGq.at_
                      have HGq := Lib.hid hGq; clear hGq
                      go_wp2_with fail
                      refine (pheld_any w.heap.size k' HI3.out.ok _ hAq).mono ?_
                      rintro e4 u4 ⟨A4, cap4, rfl, hc4, hC4, hB4⟩
                      have HG4 := Lib.hid (HGq.out.below hB4)
                      have hle4 : (heldR k').length = gD.length := HI3.out.len
                      rw [hle4]
                      clear hC4 hB4 hAq hle4 hc4
                      go_wp2_with fail
                      go_roundw
                      case rel => exact ⟨m + 1, k', gn, gD, by omega, by go_num, HI3.out, HLL.out, HG4.out⟩
                      case measure => simp [intOf]; omega
          · by_cases h2 : o0 = 2
            · subst h2
              obtain ⟨gN, hgN⟩ : ∃ l, l = gn ++ gd := ⟨_, rfl⟩
              have HLL := Lib.hid (show gN.length + ([] : List Int).length ≤ m + 1 by rw [hgN, List.length_append]; simp only [List.length_nil]; omega)
              have HGN := Lib.hid hgN; clear hgN
              have hAc := HG1.out.at_
              have hlen2 := HI.out.len
              go_wp2_with fail
              refine (clear_any w.heap.size k _ hAc HI.out.ok).mono ?_
              rintro e2 u2 ⟨rfl, hA2, hG2⟩
              rw [hlen2]
              have HG2 := Lib.hid (HG1.out.do_ hA2 hG2)
              clear hA2 hG2 hAc hlen2
              go_wp2_with (at_builtin; refine Kd.R_append_row (w0 := u2) (Value.int .i64) (0 : Int) (h1 := fun _ => rfl) (w.heap.size + 1) rfl _ _ 26 3 (.int .i64 0) 8 rfl Try.underlying26 once_info3 rfl (by decide) _ gn gd Ad gd.length cd (fun k => some k ≠ (Value.slice Ad gd.length cd).ownBlock) rfl rfl HG2.out.d.fresh HG2.out.g HG2.out.d.c.2.2 (Below.refl _ _) (Nat.le_trans (Nat.succ_le_of_lt (lt_of_block HG2.out.at_)) (Nat.le_refl _)) (by omega) ?_; intro v3 u3 hR3 hB3 hg3 hat3; rw [← HGN.out] at hR3; obtain ⟨A3, c3, rfl, hc3, hC3⟩ := Kd.R_reads hR3; have HG4 := Lib.hid (GO.dropD (HG2.out.growG hR3 hg3 hat3)); clear hR3 hB3 hg3 hat3 hC3)
              have hI2 := inv_clear HI.out
              rw [← HGN.out] at hI2
              have HI2 := Lib.hid hI2; clear hI2
              have hgl : (gN).length ≤ 300 := by have := HLL.out; omega

              go_loopw [128] (fun j u => ∃ q : Nat, q ≤ (gN).length ∧ j = .int .i64 q ∧ GO w k.none_ (.slice A3 (gN).length c3) (.slice none 0 0) (gN) ([]) u)
                (fun j _ => (gN).length - (intOf j).toNat)
              case atStart => exact ⟨0, by omega, rfl, HG4.out⟩
              case round =>
                obtain ⟨q, hq, rfl, hGq⟩ := hrel
                clear HG4
                by_cases hql : q < (gN).length
                · obtain ⟨adg, e, hgc⟩ := Kd.at_int hGq.g.c.2.2 (q : Int) (by omega) (by omega)
                  have hmem : rd (gN) (q : Int) ∈ (gN) := rd_mem _ _ (by omega) (by omega)
                  obtain ⟨hs1, hs2⟩ := inv_gone HI2.out _ hmem
                  rw [Int.toNat_natCast] at hgc
                  generalize rd (gN) (q : Int) = x at *
                  have hq0 : (0 : Int) ≤ (q : Int) := by omega
                  have hq1 : (q : Int) < ((gN).length : Int) := by omega
                  have hq63 : q < 9223372036854775807 := by have := hgl; omega
                  have hAq := hGq.at_
                  have HGq := Lib.hid hGq; clear hGq
                  have HS1 := Lib.hid hs1; clear hs1
                  have HS2 := Lib.hid hs2; clear hs2
                  clear hmem
                  subst e
                  go_wp2_with fail
                  refine (slot_any w.heap.size x k.none_ _ hAq HI2.out.ok).mono ?_
                  rintro e2 u2 ⟨rfl, rfl⟩
                  rw [HS1.out]
                  go_wp2_with fail
                  refine (drop_any w.heap.size x k.none_ _ hAq HI2.out.ok).mono ?_
                  rintro e3 u3 ⟨rfl, hA3, hG3⟩
                  rw [HS2.out] at hA3
                  rw [HS2.out]
                  have HG3 := Lib.hid (HGq.out.do_ hA3 hG3)
                  clear hA3 hG3 hAq
                  go_wp2_with fail
                  go_roundw
                  case rel => exact ⟨q + 1, by omega, by go_num, HG3.out⟩
                  case measure => simp [intOf]; omega
                · have hAq := hGq.at_
                  have HGq := Lib.hid hGq; clear hGq
                  go_wp2_with fail
                  refine (pheld_any w.heap.size k.none_ HI2.out.ok _ hAq).mono ?_
                  rintro e4 u4 ⟨A4, cap4, rfl, hc4, hC4, hB4⟩
                  have HG4 := Lib.hid (HGq.out.below hB4)
                  have hle4 : (heldR k.none_).length = 0 := HI2.out.len
                  rw [hle4]
                  clear hC4 hB4 hAq hle4 hc4
                  go_wp2_with fail
                  go_roundw
                  case rel => exact ⟨m + 1, k.none_, gN, [], by omega, by go_num, inv_more HI2.out, HLL.out, HG4.out⟩
                  case measure => simp [intOf]; omega
            · by_cases hd0 : gd.length = 0
              · have hb0 : (o0 == 0) = false := by rw [beq_eq_false_iff_ne]; exact h0
                have hb2 : (o0 == 2) = false := by rw [beq_eq_false_iff_ne]; exact h2
                have HLL := Lib.hid (show gn.length + gd.length ≤ m + 1 by omega)
                rw [hd0] at HG1
                simp only [hd0]
                have HD0 := Lib.hid hd0; clear hd0

                have hgl : (gn).length ≤ 300 := by have := HLL.out; omega
                go_wp2_with fail
                go_loopw [128] (fun j u => ∃ q : Nat, q ≤ (gn).length ∧ j = .int .i64 q ∧ GO w k (.slice Ag (gn).length cg) (.slice Ad 0 cd) (gn) (gd) u)
                  (fun j _ => (gn).length - (intOf j).toNat)
                case atStart => exact ⟨0, by omega, rfl, HG1.out⟩
                case round =>
                  obtain ⟨q, hq, rfl, hGq⟩ := hrel
                  clear HG1
                  by_cases hql : q < (gn).length
                  · obtain ⟨adg, e, hgc⟩ := Kd.at_int hGq.g.c.2.2 (q : Int) (by omega) (by omega)
                    have hmem : rd (gn) (q : Int) ∈ (gn) := rd_mem _ _ (by omega) (by omega)
                    obtain ⟨hs1, hs2⟩ := inv_gone HI.out _ hmem
                    rw [Int.toNat_natCast] at hgc
                    generalize rd (gn) (q : Int) = x at *
                    have hq0 : (0 : Int) ≤ (q : Int) := by omega
                    have hq1 : (q : Int) < ((gn).length : Int) := by omega
                    have hq63 : q < 9223372036854775807 := by have := hgl; omega
                    have hAq := hGq.at_
                    have HGq := Lib.hid hGq; clear hGq
                    have HS1 := Lib.hid hs1; clear hs1
                    have HS2 := Lib.hid hs2; clear hs2
                    clear hmem
                    subst e
                    go_wp2_with fail
                    refine (slot_any w.heap.size x k _ hAq HI.out.ok).mono ?_
                    rintro e2 u2 ⟨rfl, rfl⟩
                    rw [HS1.out]
                    go_wp2_with fail
                    refine (drop_any w.heap.size x k _ hAq HI.out.ok).mono ?_
                    rintro e3 u3 ⟨rfl, hA3, hG3⟩
                    rw [HS2.out] at hA3
                    rw [HS2.out]
                    have HG3 := Lib.hid (HGq.out.do_ hA3 hG3)
                    clear hA3 hG3 hAq
                    go_wp2_with fail
                    go_roundw
                    case rel => exact ⟨q + 1, by omega, by go_num, HG3.out⟩
                    case measure => simp [intOf]; omega
                  · have hAq := hGq.at_
                    have HGq := Lib.hid hGq; clear hGq
                    go_wp2_with fail
                    refine (pheld_any w.heap.size k HI.out.ok _ hAq).mono ?_
                    rintro e4 u4 ⟨A4, cap4, rfl, hc4, hC4, hB4⟩
                    have HG4 := Lib.hid (HGq.out.below hB4)
                    have hle4 : (heldR k).length = 0 := HI.out.len.trans HD0.out
                    rw [hle4]
                    clear hC4 hB4 hAq hle4 hc4
                    go_wp2_with fail
                    go_roundw
                    case rel => exact ⟨m + 1, k, gn, gd, by omega, by go_num, inv_more HI.out, HLL.out, HG4.out⟩
                    case measure => simp [intOf]; omega
              · have hb0 : (o0 == 0) = false := by rw [beq_eq_false_iff_ne]; exact h0
                have hb2 : (o0 == 2) = false := by rw [beq_eq_false_iff_ne]; exact h2
                have hd1 : (0 : Int) < (gd.length : Int) := by omega
                clear hd0 h0 h2
                obtain ⟨i, hix, hil⟩ : ∃ i : Nat, wrap64 ((IntKind.u64.wrap o1).tmod (gd.length : Int)) = (i : Int) ∧ i < gd.length := by
                  have hu : 0 ≤ IntKind.u64.wrap o1 := by rw [IntKind.wrap_u64]; omega
                  have h1 := Int.emod_nonneg (IntKind.u64.wrap o1) (show (gd.length : Int) ≠ 0 by omega)
                  have h2 := Int.emod_lt_of_pos (IntKind.u64.wrap o1) hd1
                  rw [Int.tmod_eq_emod_of_nonneg hu]
                  refine ⟨(IntKind.u64.wrap o1 % (gd.length : Int)).toNat, ?_, by omega⟩
                  unfold wrap64
                  omega
                obtain ⟨x, hx⟩ : ∃ x, gd[i]? = some x := ⟨_, List.getElem?_eq_getElem hil⟩
                obtain ⟨hd, hI⟩ := inv_drop HI.out i hil x hx
                obtain ⟨add, e, hxc⟩ := Kd.at_int HG1.out.d.c.2.2 (i : Int) (by omega) (by omega)
                subst e
                have hrd : rd gd (i : Int) = x := by unfold rd; rw [Int.toNat_natCast, List.getD_eq_getElem?_getD, hx]; rfl
                rw [hrd, Int.toNat_natCast] at hxc
                have HRD := Lib.hid hrd; clear hrd
                obtain ⟨gN, hgN⟩ : ∃ l, l = gn ++ [x] := ⟨_, rfl⟩
                have HGN := Lib.hid hgN; clear hgN
                have hi0 : (0 : Int) ≤ (i : Int) := by omega
                have hi1 : (i : Int) < (gd.length : Int) := by omega
                have HX := Lib.hid hx; clear hx
                have HD := Lib.hid hd; clear hd
                generalize k.hold (x % 64).toNat false = k' at *
                have HI2 := Lib.hid hI; clear hI
                have hAc := HG1.out.at_
                have hih : i < 9223372036854775000 := by omega
                go_wp2_with fail
                refine (drop_any w.heap.size x k _ hAc HI.out.ok).mono ?_
                rintro e2 u2 ⟨rfl, hA2, hG2⟩
                rw [HD.out] at hA2
                rw [HD.out]
                have HG2 := Lib.hid (HG1.out.do_ hA2 hG2)
                obtain ⟨add2, e5, hxc2⟩ := Kd.at_int HG2.out.d.c.2.2 (i : Int) (by omega) (by omega)
                injection e5 with e5
                subst e5
                rw [HRD.out, Int.toNat_natCast] at hxc2
                clear hA2 hG2 hAc hxc
                go_wp2_with (at_builtin; refine Kd.R_append (Kd.int .i64) (w0 := u2) (w.heap.size + 1) rfl _ _ 26 3 (.int .i64 0) 8 rfl Try.underlying26 once_info3 rfl (by decide) (by omega) (.slice Ag gn.length cg) gn x [.int .i64 x] (fun k => some k ≠ (Value.slice (some add) gd.length cd).ownBlock) (fun _ => False) rfl rfl rfl (fun _ hk => hk.elim) HG2.out.d.fresh HG2.out.g (Below.refl _ _) (Nat.succ_le_of_lt (lt_of_block HG2.out.at_)) (by omega) ?_; intro v3 u3 hR3 hB3 hg3 hat3; rw [← HGN.out] at hR3; obtain ⟨A3, c3, rfl, hc3, hC3⟩ := Kd.R_reads hR3; have HG3 := Lib.hid (HG2.out.growG hR3 hg3 hat3); clear hR3 hB3 hg3 hat3 hC3)
                obtain ⟨iz, hif, hiz⟩ := Option.map_eq_some_iff.1 once_info3
                simp only [Prod.mk.injEq] at hiz
                have ht1 := print_take_of (P := Try.prog) (Value.int .i64) (0 : Int) 26 3 .i64 Try.underlying26 hif hiz.2.1 (some add) cd gd (i : Int) (by omega) (by omega) hcd
                obtain ⟨Adr, ht2⟩ := print_drop_of (P := Try.prog) (Value.int .i64) (0 : Int) 26 3 .i64 Try.underlying26 hif hiz.2.1 (some add) cd gd ((i : Int) + 1) (by omega) (by omega) hcd
                rw [Int.toNat_natCast] at ht1
                rw [show ((i : Int) + 1).toNat = i + 1 by omega] at ht2
                have hsum : (gd.take i).length + (gd.drop (i + 1)).length + 1 = gd.length := by rw [List.length_take, List.length_drop]; omega
                have HSUM := Lib.hid hsum; clear hsum
                have hltk : (gd.take i).length ≤ 150 := by rw [List.length_take]; omega
                have hldr : (gd.drop (i + 1)).length ≤ 150 := by rw [List.length_drop]; omega
                obtain ⟨hs1, hc1, -⟩ := ht1
                obtain ⟨hs2, hc2, -⟩ := ht2
                generalize gd.take i = tk at *
                generalize gd.drop (i + 1) = dr at *
                have hwi : IntKind.i64.wrap ((i : Int) + 1) = (i : Int) + 1 := by rw [IntKind.wrap_i64]; omega
                generalize hcdi : cd - (i + 1) = cdr at *
                have HRC := Lib.hid (And.intro hc1 hc2); clear hc1 hc2 hcdi hif hiz
                go_region_held3 (fun u => Below u3.heap.size u3 u)
                  (first | exact Below.refl _ _ | exact (Below.refl _ _).drew | exact (Below.refl _ _).alloc (Nat.le_refl _) _ | exact ((Below.refl _ _).alloc (Nat.le_refl _) _).drew | assumption)
                  (first
                    | (refine step_rows' rfl _ _ rfl u3.heap.size (ok := fun _ => True) (.slice (some ⟨u3.heap.size, 0, none⟩) 0 0) [] tk rfl (by first | exact lit_row u3 | exact Kd.R_below (lit_row u3) (Below.refl _ _).drew) (fun _ _ => trivial) (some add) tk.length cd rfl (by first | exact Kd.C_of_reads (HRC.out.1 _ (Kd.reads_of_C (HG3.out.below ((Below.refl _ _).alloc (Nat.le_refl _) _)).d.c.2.2)) | exact Kd.C_of_reads (HRC.out.1 _ (Kd.reads_of_C (HG3.out.below ((Below.refl _ _).alloc (Nat.le_refl _) _).drew).d.c.2.2))) (by first | omega | (simp; omega)) (by simp) ?_; intro v4 w4 hR4 hg4 hat4; have hB4 : Below u3.heap.size u3 w4 := by first | exact (((Below.refl _ _).alloc (Nat.le_refl _) _).grown hg4 (by simp) (fun k hk => by simp [Value.ownBlock] at hk; omega)) | exact (((Below.refl _ _).alloc (Nat.le_refl _) _).drew.grown hg4 (by simp) (fun k hk => by simp [Value.ownBlock] at hk; omega)))
                    | (refine step_rows' rfl _ _ rfl u3.heap.size (ok := fun _ => True) v4 ([] ++ tk) dr rfl (by first | exact hR4 | exact Kd.R_below hR4 (Below.refl _ _).drew) (fun _ _ => trivial) Adr dr.length cdr rfl (by first | exact Kd.C_of_reads (HRC.out.2 _ (Kd.reads_of_C (HG3.out.below hB4).d.c.2.2)) | exact Kd.C_of_reads (HRC.out.2 _ (Kd.reads_of_C (HG3.out.below hB4.drew).d.c.2.2))) (by first | omega | (simp only [List.nil_append]; omega)) (by first | exact hB4.size | exact hB4.drew.size) ?_; intro v5 w5 hR5 hg5 hat5; have hB5 : Below u3.heap.size u3 w5 := by first | exact hB4.grown hg5 hB4.size (fun k hk => ((Kd.R_bound hR4).1 k hk).2.1) | exact hB4.drew.grown hg5 hB4.size (fun k hk => ((Kd.R_bound hR4).1 k hk).2.1)))
                rw [List.nil_append] at hR5
                obtain ⟨gD, hgD⟩ : ∃ l, l = tk ++ dr := ⟨_, rfl⟩
                have hLL : gN.length + gD.length ≤ m + 1 := by
                  rw [HGN.out, hgD, List.length_append, List.length_append]
                  have := HSUM.out
                  simp only [List.length_cons, List.length_nil]
                  omega
                have HLL := Lib.hid hLL; clear hLL
                rw [← hgD] at hR5
                have hI3 := HI2.out
                rw [← HGN.out, ← hgD] at hI3
                have HI3 := Lib.hid hI3
                clear hI3 hR4 hg4 hat4 hB4 hg5 hat5 hgD HSUM HRC hs1 hs2
                obtain ⟨A5, c5, rfl, hc5, hC5⟩ := Kd.R_reads hR5
                have HG5 := Lib.hid (HG3.out.newD hB5 hR5)
                clear hR5 hB5 hC5 HG3 HG2 HG1

                have hgl : (gN).length ≤ 300 := by have := HLL.out; omega
                go_wp2_with fail
                go_loopw [128] (fun j u => ∃ q : Nat, q ≤ (gN).length ∧ j = .int .i64 q ∧ GO w k' (.slice A3 (gN).length c3) (.slice A5 gD.length c5) (gN) (gD) u)
                  (fun j _ => (gN).length - (intOf j).toNat)
                case atStart => exact ⟨0, by omega, rfl, HG5.out⟩
                case round =>
                  obtain ⟨q, hq, rfl, hGq⟩ := hrel
                  clear HG5
                  by_cases hql : q < (gN).length
                  · obtain ⟨adg, e, hgc⟩ := Kd.at_int hGq.g.c.2.2 (q : Int) (by omega) (by omega)
                    have hmem : rd (gN) (q : Int) ∈ (gN) := rd_mem _ _ (by omega) (by omega)
                    obtain ⟨hs1, hs2⟩ := inv_gone HI3.out _ hmem
                    rw [Int.toNat_natCast] at hgc
                    generalize rd (gN) (q : Int) = x at *
                    have hq0 : (0 : Int) ≤ (q : Int) := by omega
                    have hq1 : (q : Int) < ((gN).length : Int) := by omega
                    have hq63 : q < 9223372036854775807 := by have := hgl; omega
                    have hAq := hGq.at_
                    have HGq := Lib.hid hGq; clear hGq
                    have HS1 := Lib.hid hs1; clear hs1
                    have HS2 := Lib.hid hs2; clear hs2
                    clear hmem
                    subst e
                    go_wp2_with fail
                    refine (slot_any w.heap.size x k' _ hAq HI3.out.ok).mono ?_
                    rintro e2 u2 ⟨rfl, rfl⟩
                    rw [HS1.out]
                    go_wp2_with fail
                    refine (drop_any w.heap.size x k' _ hAq HI3.out.ok).mono ?_
                    rintro e3 u3 ⟨rfl, hA3, hG3⟩
                    rw [HS2.out] at hA3
                    rw [HS2.out]
                    have HG3 := Lib.hid (HGq.out.do_ hA3 hG3)
                    clear hA3 hG3 hAq
                    go_wp2_with fail
                    go_roundw
                    case rel => exact ⟨q + 1, by omega, by go_num, HG3.out⟩
                    case measure => simp [intOf]; omega
                  · have hAq := hGq.at_
                    have HGq := Lib.hid hGq; clear hGq
                    go_wp2_with fail
                    refine (pheld_any w.heap.size k' HI3.out.ok _ hAq).mono ?_
                    rintro e4 u4 ⟨A4, cap4, rfl, hc4, hC4, hB4⟩
                    have HG4 := Lib.hid (HGq.out.below hB4)
                    have hle4 : (heldR k').length = gD.length := HI3.out.len
                    rw [hle4]
                    clear hC4 hB4 hAq hle4 hc4
                    go_wp2_with fail
                    go_roundw
                    case rel => exact ⟨m + 1, k', gN, gD, by omega, by go_num, inv_more HI3.out, HLL.out, HG4.out⟩
                    case measure => simp [intOf]; omega
        · have hml : m = len := by omega
          subst hml
          have HT := Lib.hid hG.bel; clear hG
          go_wp2_with fail
          refine (alive_any _).mono ?_
          rintro e w' ⟨rfl, hBa⟩
          have hBt := HT.out.trans (hBa.mono HT.out.size)
          clear hBa
          go_wp2_with fail
          go_ret
          exact ⟨rfl, hBt⟩
  · go_enter Try.func3, Try.ntmps3
    go_wp2_with fail
    refine (new_no n _ hn).mono ?_
    rintro e w1 ⟨rfl, rfl⟩
    go_wp2_with fail
    refine (alive_any _).mono ?_
    rintro e w' ⟨rfl, hBa⟩
    go_wp2_with fail
    go_ret
    exact ⟨rfl, hBa⟩

end Go.Proofs.Ytgkjiemjghmgmaa.Grants
