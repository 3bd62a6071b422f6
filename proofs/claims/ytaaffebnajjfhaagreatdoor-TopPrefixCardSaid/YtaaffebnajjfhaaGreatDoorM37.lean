/- Texts of this proof, merged: Frs2, Frs3, Brd19. -/
import Derived.Test.YtaaffebnajjfhaaGreatDoorM33
namespace Go.Proofs.YtaaffebnajjfhaaGreatDoor.T
set_option linter.unusedVariables false
set_option linter.unusedSimpArgs false
open Go.RowKit
set_option maxRecDepth 100000 in
theorem size_any (x : Int) (hx2 : x < 9223372036854775808) (w : World) (hg : Glob w) :
    Calls Tryz.prog 43 #[.int .i64 x] w fun e w' => e = .returned (.int .i64 (if ringB x = true then 4 + 11 * x else 0)) ∧ w = w' := by
  have HT := Lib.hid (ringed_any x hx2 w hg)
  have h8 := hg.ahead.2.2.2
  by_cases hr : ringB x = true
  · rw [if_pos hr]
    have hx := (ringB_iff x).1 hr
    have hx3 : 2 ≤ x ∧ x ≤ 64 := by omega
    obtain ⟨hx4, hx5⟩ := hx3
    clear hx
    rw [hr] at HT
    clear hr hg
    go_enter Tryz.func43, Tryz.ntmps43
    go_wp2_with fail
    refine HT.out.mono ?_
    rintro e w' ⟨rfl, rfl⟩
    go_wp2_with fail
    go_ret
    exact ⟨rfl, rfl⟩
  · rw [if_neg hr]
    have hr : ringB x = false := by simpa using hr
    rw [hr] at HT
    clear hr hg
    go_enter Tryz.func43, Tryz.ntmps43
    go_wp2_with fail
    refine HT.out.mono ?_
    rintro e w' ⟨rfl, rfl⟩
    go_wp2_with fail
    go_ret
    exact ⟨rfl, rfl⟩
def rightB (n r m : Int) : Bool := decide (2 ≤ n) && decide (n ≤ 8) && ringB r && decide (1 ≤ m) && decide (m ≤ 16)
def plotV (n r m : Int) : Value := .agg #[.int .i64 n, .int .i64 r, .int .i64 m]
theorem plot_box (n r m : Int) (w : World) (hg : Glob w) : ∃ w1, w1 = w.alloc (.cells #[.int .i64 n, .int .i64 r, .int .i64 m] 23) ∧ Below w.heap.size w w1 ∧ Blk w1 w.heap.size 23 [.int .i64 n, .int .i64 r, .int .i64 m] ∧ Glob w1 ∧ w1.heap.size = w.heap.size + 1 :=
  ⟨_, rfl, (Below.refl _ _).alloc (Nat.le_refl _) _, Blk.new _ _ _, hg.fresh ((Below.refl _ _).alloc (Nat.le_refl _) _), by simp⟩
set_option maxRecDepth 100000 in
theorem right_any (n r m : Int) (hr2 : r < 9223372036854775808) (w : World) (hg : Glob w) :
    Calls Tryz.prog 17 #[plotV n r m] w fun e w' => e = .returned (.bool (rightB n r m)) ∧ Below w.heap.size w w' := by
  obtain ⟨w1, hw1, hb1, hk1, hg1, -⟩ := plot_box n r m w hg
  have HW := Lib.hid hw1
  have HT := Lib.hid (ringed_any r hr2 w1 hg1)
  have HB := Lib.hid hb1
  have p0 := hk1.cell 0
  have p1 := hk1.cell 1
  have p2 := hk1.cell 2
  simp only [List.getElem?_cons_zero, List.getElem?_cons_succ] at p0 p1 p2
  unfold rightB plotV
  generalize ringB r = rb at *
  clear hw1 hb1 hk1 hg1 hg
  by_cases h1 : 2 ≤ n
  · by_cases h2 : n ≤ 8
    · cases rb with
      | true =>
        by_cases h3 : 1 ≤ m
        · have e : (decide (2 ≤ n) && decide (n ≤ 8) && true && decide (1 ≤ m) && decide (m ≤ 16)) = decide (m ≤ 16) := by simp [h1, h2, h3]
          rw [e]
          go_enter Tryz.func17, Tryz.ntmps17
          go_wp2_with fail
          rw [← HW.out]
          go_wp2_with fail
          refine HT.out.mono ?_
          rintro e w' ⟨rfl, rfl⟩
          go_wp2_with fail
          go_ret
          exact ⟨rfl, HB.out⟩
        · have e : (decide (2 ≤ n) && decide (n ≤ 8) && true && decide (1 ≤ m) && decide (m ≤ 16)) = false := by simp [h3]
          rw [e]
          go_enter Tryz.func17, Tryz.ntmps17
          go_wp2_with fail
          rw [← HW.out]
          go_wp2_with fail
          refine HT.out.mono ?_
          rintro e w' ⟨rfl, rfl⟩
          go_wp2_with fail
          go_ret
          exact ⟨rfl, HB.out⟩
      | false =>
        have e : (decide (2 ≤ n) && decide (n ≤ 8) && false && decide (1 ≤ m) && decide (m ≤ 16)) = false := by simp
        rw [e]
        go_enter Tryz.func17, Tryz.ntmps17
        go_wp2_with fail
        rw [← HW.out]
        go_wp2_with fail
        refine HT.out.mono ?_
        rintro e w' ⟨rfl, rfl⟩
        go_wp2_with fail
        go_ret
        exact ⟨rfl, HB.out⟩
    · have e : (decide (2 ≤ n) && decide (n ≤ 8) && rb && decide (1 ≤ m) && decide (m ≤ 16)) = false := by simp [h2]
      rw [e]
      go_enter Tryz.func17, Tryz.ntmps17
      go_wp2_with fail
      rw [← HW.out]
      go_wp2_with fail
      go_ret
      exact ⟨rfl, HB.out⟩
  · have e : (decide (2 ≤ n) && decide (n ≤ 8) && rb && decide (1 ≤ m) && decide (m ≤ 16)) = false := by simp [h1]
    rw [e]
    go_enter Tryz.func17, Tryz.ntmps17
    go_wp2_with fail
    rw [← HW.out]
    go_wp2_with fail
    go_ret
    exact ⟨rfl, HB.out⟩
end Go.Proofs.YtaaffebnajjfhaaGreatDoor.T
namespace Go.Proofs.YtaaffebnajjfhaaGreatDoor.T
set_option linter.unusedVariables false
set_option linter.unusedSimpArgs false
open Go.RowKit
theorem right_of {n r m : Int} (h : rightB n r m = true) : 2 ≤ n ∧ n ≤ 8 ∧ (2 ≤ r ∧ r ≤ 64) ∧ ringB r = true ∧ 1 ≤ m ∧ m ≤ 16 := by
  unfold rightB at h
  simp only [Bool.and_eq_true, decide_eq_true_eq] at h
  obtain ⟨⟨⟨⟨h1, h2⟩, h3⟩, h4⟩, h5⟩ := h
  have := (ringB_iff r).1 h3
  exact ⟨h1, h2, by omega, h3, h4, h5⟩
theorem size106 : (Tryz.prog.info? 106).map (·.size) = some 2 := by kernel_rfl
def baseZ (n r f t : Int) : Int := (f * (n - 1) + t - if f < t then 1 else 0) * (4 + 11 * r)
theorem of_box (n r m : Int) (w : World) (hg : Glob w) : ∃ w1, w1 = (w.alloc (.cells #[.int .i64 n, .int .i64 r, .int .i64 m] 23)).alloc (.cells #[.int .i64 0, .int .i64 0] 106) ∧ Below w.heap.size w w1 ∧ Blk w1 w.heap.size 23 [.int .i64 n, .int .i64 r, .int .i64 m] ∧ Blk w1 (w.heap.size + 1) 106 [.int .i64 0, .int .i64 0] ∧ Glob w1 ∧ w1.heap.size = w.heap.size + 2 := by
  have h1 := Blk.new w 23 [.int .i64 n, .int .i64 r, .int .i64 m]
  have h2 := Blk.new (w.alloc (.cells #[.int .i64 n, .int .i64 r, .int .i64 m] 23)) 106 [.int .i64 0, .int .i64 0]
  have hb : Below w.heap.size w ((w.alloc (.cells #[.int .i64 n, .int .i64 r, .int .i64 m] 23)).alloc (.cells #[.int .i64 0, .int .i64 0] 106)) := ((Below.refl _ _).alloc (Nat.le_refl _) _).alloc (by simp) _
  refine ⟨_, rfl, hb, h1.alloc _, ?_, hg.fresh hb, by simp⟩
  have e : (w.alloc (.cells #[.int .i64 n, .int .i64 r, .int .i64 m] 23)).heap.size = w.heap.size + 1 := by simp
  rw [e] at h2
  exact h2
theorem far2 {u : World} {k : Nat} {a b : Value} {v : Option Value} (h : u.cell? ⟨k, 1, none⟩ = v) : (((u.setCell ⟨k + 1, 0, none⟩ a).setCell ⟨k + 1, 1, none⟩ b).drew).cell? ⟨k, 1, none⟩ = v := by
  have e : ((u.setCell ⟨k + 1, 0, none⟩ a).setCell ⟨k + 1, 1, none⟩ b).heap[k]? = u.heap[k]? := by
    rw [Below.heap_setCell _ _ _ _ (by simp), Below.heap_setCell _ _ _ _ (by simp)]
  have e2 : ((u.setCell ⟨k + 1, 0, none⟩ a).setCell ⟨k + 1, 1, none⟩ b).cell? ⟨k, 1, none⟩ = u.cell? ⟨k, 1, none⟩ := World.cell?_of_block e
  exact e2.trans h
set_option maxHeartbeats 1000000 in
set_option maxRecDepth 100000 in
theorem of_yes (n r m f t : Int) (hR : rightB n r m = true) (hf0 : 0 ≤ f) (hf1 : f < n) (ht0 : 0 ≤ t) (ht1 : t < n) (hne : f ≠ t) (w : World) (hg : Glob w) :
    Calls Tryz.prog 44 #[plotV n r m, .int .i64 f, .int .i64 t] w fun e w' => e = .returned (.tuple #[.agg #[.int .i64 (baseZ n r f t), .int .i64 r], .bool true]) ∧ Below w.heap.size w w' := by
  obtain ⟨hn0, hn1, ⟨hr0, hr1⟩, hrb, hm0, hm1⟩ := right_of hR
  obtain ⟨w1, hw1, hb1, hk1, hk2, hg1, hz1⟩ := of_box n r m w hg
  have hQ := right_any n r m (by omega) w1 hg1
  rw [hR] at hQ
  have hS := fun u (hu : Glob u) => size_any r (by omega) u hu
  rw [hrb] at hS
  simp only [if_true] at hS
  have HW := Lib.hid hw1
  have HQ := Lib.hid hQ
  have HS := Lib.hid hS
  have HB := Lib.hid (And.intro hb1 (And.intro hk1 (And.intro hk2 (And.intro hg1 hz1))))
  have hmul0 : 0 ≤ f * (n - 1) := Int.mul_nonneg hf0 (by omega)
  have hmul1 : f * (n - 1) ≤ 49 := by
    have h1 : f * (n - 1) ≤ 7 * (n - 1) := Int.mul_le_mul_of_nonneg_right (by omega) (by omega)
    omega
  have e0 : (f == t) = false := by simpa using hne
  have hbz : baseZ n r f t = if f < t then (f * (n - 1) + t - 1) * (4 + 11 * r) else (f * (n - 1) + t) * (4 + 11 * r) := by
    unfold baseZ
    split
    · rfl
    · simp
  rw [hbz]
  generalize hA : f * (n - 1) = A at *
  have hq : ∀ q : Int, 0 ≤ q → q ≤ 57 → 0 ≤ q * (4 + 11 * r) ∧ q * (4 + 11 * r) ≤ 40356 := fun q h0 h1 => by
    refine ⟨Int.mul_nonneg h0 (by omega), ?_⟩
    have h2 : q * (4 + 11 * r) ≤ 57 * (4 + 11 * r) := Int.mul_le_mul_of_nonneg_right h1 (by omega)
    omega
  clear hbz hw1 hb1 hk1 hk2 hg1 hz1 hQ hS hR hrb hg hne
  unfold plotV
  by_cases hlt : f < t
  · rw [if_pos hlt]
    have hq1 := hq (A + t - 1) (by omega) (by omega)
    obtain ⟨hq2, hq3⟩ := hq1
    clear hq
    have ew : IntKind.i64.wrap ((A + t - 1) * (4 + 11 * r)) = (A + t - 1) * (4 + 11 * r) := by rw [IntKind.wrap_i64]; omega
    go_enter Tryz.func44, Tryz.ntmps44
    go_wp2_with fail
    rw [← HW.out]
    refine HQ.out.mono ?_
    rintro e w2 ⟨rfl, hb2⟩
    have hk1 := HB.out.2.1.keep (Keep.ofFresh hb2 (B := 0) (F := fun _ => False)) (fun q => q)
    have hk2 := HB.out.2.2.1.keep (Keep.ofFresh hb2 (B := 0) (F := fun _ => False)) (fun q => q)
    have hg2 := HB.out.2.2.2.1.fresh hb2
    have p0 := hk1.cell 0
    have p1 := hk1.cell 1
    have p2 := hk1.cell 2
    have z0 := hk2.cell 0
    have z1 := hk2.cell 1
    have y0 := hk2.free 0
    have y1 := hk2.free 1
    simp only [List.getElem?_cons_zero, List.getElem?_cons_succ] at p0 p1 p2 z0 z1
    have HS2 := Lib.hid (HS.out _ hg2)
    have HB2 := Lib.hid (And.intro hb2 (And.intro hk2 hg2))
    clear hk1 hk2 hg2 hb2
    go_wp2_with fail
    go_region_held3 (fun u => u.cell? ⟨w.heap.size, 1, none⟩ = some (.int .i64 r)) (first | exact p1 | assumption | exact far2 p1) (first | (go_at_call 43; refine (HS.out _ (HB2.out.2.2.fresh (Below.refl _ _).drew)).mono ?_; rintro e w3 ⟨rfl, rfl⟩))
    have hk3 := ((HB2.out.2.1.set 0 (.int .i64 ((A + t - 1) * (4 + 11 * r)))).set 1 (.int .i64 r))
    have hb3 : Below w.heap.size w (((w2.setCell ⟨w.heap.size + 1, 0, none⟩ (.int .i64 ((A + t - 1) * (4 + 11 * r)))).setCell ⟨w.heap.size + 1, 1, none⟩ (.int .i64 r)).drew) := by
      have h2 := HB.out.1.trans (HB2.out.1.mono (HB.out.1.size))
      exact ((h2.setCell (p := ⟨w.heap.size + 1, 0, none⟩) (by simp) (.int .i64 ((A + t - 1) * (4 + 11 * r)))).setCell (p := ⟨w.heap.size + 1, 1, none⟩) (by simp) (.int .i64 r)).drew
    have HF := Lib.hid (And.intro hk3 hb3)
    clear hk3 hb3
    generalize (w2.setCell ⟨w.heap.size + 1, 0, none⟩ (.int .i64 ((A + t - 1) * (4 + 11 * r)))).setCell ⟨w.heap.size + 1, 1, none⟩ (.int .i64 r) = w4 at *
    go_wp2_with fail
    refine bodyPost_ret (res_st rfl _ _ (w.heap.size + 1) #[.int .i64 ((A + t - 1) * (4 + 11 * r)), .int .i64 r] rfl (run_loadVar_row _ _ 106 106 _ (0, 0) _ HF.out.1 Tryz.underlying106 rfl size106)) rfl ?_
    exact ⟨rfl, HF.out.2⟩
  · rw [if_neg hlt]
    have hq1 := hq (A + t) (by omega) (by omega)
    obtain ⟨hq2, hq3⟩ := hq1
    clear hq
    have ew : IntKind.i64.wrap ((A + t) * (4 + 11 * r)) = (A + t) * (4 + 11 * r) := by rw [IntKind.wrap_i64]; omega
    go_enter Tryz.func44, Tryz.ntmps44
    go_wp2_with fail
    rw [← HW.out]
    refine HQ.out.mono ?_
    rintro e w2 ⟨rfl, hb2⟩
    have hk1 := HB.out.2.1.keep (Keep.ofFresh hb2 (B := 0) (F := fun _ => False)) (fun q => q)
    have hk2 := HB.out.2.2.1.keep (Keep.ofFresh hb2 (B := 0) (F := fun _ => False)) (fun q => q)
    have hg2 := HB.out.2.2.2.1.fresh hb2
    have p0 := hk1.cell 0
    have p1 := hk1.cell 1
    have p2 := hk1.cell 2
    have z0 := hk2.cell 0
    have z1 := hk2.cell 1
    have y0 := hk2.free 0
    have y1 := hk2.free 1
    simp only [List.getElem?_cons_zero, List.getElem?_cons_succ] at p0 p1 p2 z0 z1
    have HS2 := Lib.hid (HS.out _ hg2)
    have HB2 := Lib.hid (And.intro hb2 (And.intro hk2 hg2))
    clear hk1 hk2 hg2 hb2
    go_wp2_with fail
    go_region_held3 (fun u => u.cell? ⟨w.heap.size, 1, none⟩ = some (.int .i64 r)) (first | exact p1 | assumption | exact far2 p1) (first | (go_at_call 43; refine (HS.out _ (HB2.out.2.2.fresh (Below.refl _ _).drew)).mono ?_; rintro e w3 ⟨rfl, rfl⟩))
    have hk3 := ((HB2.out.2.1.set 0 (.int .i64 ((A + t) * (4 + 11 * r)))).set 1 (.int .i64 r))
    have hb3 : Below w.heap.size w (((w2.setCell ⟨w.heap.size + 1, 0, none⟩ (.int .i64 ((A + t) * (4 + 11 * r)))).setCell ⟨w.heap.size + 1, 1, none⟩ (.int .i64 r)).drew) := by
      have h2 := HB.out.1.trans (HB2.out.1.mono (HB.out.1.size))
      exact ((h2.setCell (p := ⟨w.heap.size + 1, 0, none⟩) (by simp) (.int .i64 ((A + t) * (4 + 11 * r)))).setCell (p := ⟨w.heap.size + 1, 1, none⟩) (by simp) (.int .i64 r)).drew
    have HF := Lib.hid (And.intro hk3 hb3)
    clear hk3 hb3
    generalize (w2.setCell ⟨w.heap.size + 1, 0, none⟩ (.int .i64 ((A + t) * (4 + 11 * r)))).setCell ⟨w.heap.size + 1, 1, none⟩ (.int .i64 r) = w4 at *
    go_wp2_with fail
    refine bodyPost_ret (res_st rfl _ _ (w.heap.size + 1) #[.int .i64 ((A + t) * (4 + 11 * r)), .int .i64 r] rfl (run_loadVar_row _ _ 106 106 _ (0, 0) _ HF.out.1 Tryz.underlying106 rfl size106)) rfl ?_
    exact ⟨rfl, HF.out.2⟩
end Go.Proofs.YtaaffebnajjfhaaGreatDoor.T
namespace Go.Proofs.YtaaffebnajjfhaaGreatDoor.T
set_option linter.unusedVariables false
set_option linter.unusedSimpArgs false
open Go.RowKit
section
variable {w w' w3 w4 : World} {Y : Lay} {b b' : Bd} {n ring c B : Nat} {K : Cor} {vgc vtc : Value} {gbc : Nat → Nat} {vfc voc vlc : Nat → Value} {tkc ttc : Nat → Nat} {vtlc : Nat → Value} {tg : Nat → Tag}
theorem CoreAt.keep {F : Nat → Prop} (h : CoreAt w n ring c K vgc vtc gbc vfc voc vlc tkc ttc vtlc) (o : CoreOwn B n c tg vgc vtc gbc vfc voc vlc tkc ttc vtlc) (hk : Keep F w w') (hF : ∀ k, B ≤ k → ¬ F k) : CoreAt w' n ring c K vgc vtc gbc vfc voc vlc tkc ttc vtlc :=
  ⟨h.givs.keep hk (fun k q => hF k (o.rows k (.inl q)).1), h.taks.keep hk (fun k q => hF k (o.rows k (.inr q)).1),
    fun p hp hpc => (h.giv p hp hpc).keep hk (fun k q => hF k (o.giv p hp hpc k q).1), fun p hp hpc => (h.tak p hp hpc).keep hk (fun k q => hF k (o.tak p hp hpc k q).1)⟩
theorem CoreOwn.mono {B' : Nat} {tg' : Nat → Tag} (o : CoreOwn B n c tg vgc vtc gbc vfc voc vlc tkc ttc vtlc) (hB : B' ≤ B) (ht : ∀ k, B ≤ k → tg' k = tg k) : CoreOwn B' n c tg' vgc vtc gbc vfc voc vlc tkc ttc vtlc :=
  ⟨fun k q => ⟨Nat.le_trans hB (o.rows k q).1, (ht k (o.rows k q).1).trans (o.rows k q).2⟩, fun p hp hpc k q => ⟨Nat.le_trans hB (o.giv p hp hpc k q).1, (ht k (o.giv p hp hpc k q).1).trans (o.giv p hp hpc k q).2⟩,
    fun p hp hpc k q => ⟨Nat.le_trans hB (o.tak p hp hpc k q).1, (ht k (o.tak p hp hpc k q).1).trans (o.tak p hp hpc k q).2⟩⟩
theorem BdAt.relaid (h : BdAt w Y b) (hc : c < b.n) {m' : Nat → Nat} {q' : Nat → List (Nat × Nat)} {g' : Gates.Gt} (hK : K.runs = none ∧ K.entry = 0) (hup : ∀ i, i ≠ c → g'.held.getD i false = b.sc.g.held.getD i false)
    (hT : SocTo w Y.S b.n (chanWords b.n b.ring) b.most Y.vs m' q' g' w3) (hb : Below w3.heap.size w3 w4) (tg : Nat → Tag)
    (hco : g'.held.getD c false = false → CoreAt w4 b.n b.ring c K vgc vtc gbc vfc voc vlc tkc ttc vtlc ∧ CoreOwn w3.heap.size b.n c tg vgc vtc gbc vfc voc vlc tkc ttc vtlc)
    (A0 A1 : Value) (h0 : A0 = if g'.held.getD c false = false then vgc else .slice none 0 0) (h1 : A1 = if g'.held.getD c false = false then vtc else .slice none 0 0) :
    BdTo w Y b ((b.setSc ⟨m', q', g'⟩).setCor c K) ((((w4.setCell ⟨Y.cg, c * 4, none⟩ A0).setCell ⟨Y.cg, c * 4 + 1, none⟩ A1).setCell ⟨Y.cg, c * 4 + 2, none⟩ .nilIface).setCell ⟨Y.cg, c * 4 + 3, none⟩ (.int .i64 (0 : Nat))) := by
  classical
  obtain ⟨vs', hs3, k3, n3⟩ := hT
  have hcgs : Y.cg < w.heap.size := by obtain ⟨cs, hcs, _⟩ := h.cores; exact hcs.lt
  obtain ⟨tag, o⟩ := h.own
  have htcg : tag Y.cg = .brd := o.brd _ (.inr (.inl rfl))
  have hF : ∀ k, SocF Y.S b.n Y.vs k → tag k = .soc := fun k q => o.soc k (.inr (.inr (.inr (.inr (.inr q)))))
  have hcgF : ¬ SocF Y.S b.n Y.vs Y.cg := fun q => by have := hF _ q; rw [htcg] at this; cases this
  have hlt3 : ∀ k, SocF Y.S b.n vs' k → k < w3.heap.size := fun k q => hs3.lt k (.inr (.inr (.inr (.inr (.inr q)))))
  have hsa : ∀ k, SocAll Y.S b.n vs' k → k ≠ Y.cg := fun k q e => by
    subst e
    have hS : SocAll Y.S b.n Y.vs Y.cg → False := fun r => by have := o.soc _ r; rw [htcg] at this; cases this
    rcases q with q | q | q | q | q | q
    · exact hS (.inl q)
    · exact hS (.inr (.inl q))
    · exact hS (.inr (.inr (.inl q)))
    · exact hS (.inr (.inr (.inr (.inl q))))
    · exact hS (.inr (.inr (.inr (.inr (.inl q)))))
    · rcases n3 _ q with e | e
      · exact hcgF e
      · omega
  have k34 : ∀ F : Nat → Prop, Keep F w3 w4 := fun F => Keep.ofFresh hb (B := 0)
  generalize hw5 : (((w4.setCell ⟨Y.cg, c * 4, none⟩ A0).setCell ⟨Y.cg, c * 4 + 1, none⟩ A1).setCell ⟨Y.cg, c * 4 + 2, none⟩ .nilIface).setCell ⟨Y.cg, c * 4 + 3, none⟩ (.int .i64 (0 : Nat)) = w5
  have k45 : Keep (fun k => k = Y.cg) w4 w5 := by
    subst hw5
    exact ((((Keep.refl (fun k => k = Y.cg) w4).setCell (p := ⟨Y.cg, c * 4, none⟩) (fun _ => rfl) _).setCell (p := ⟨Y.cg, c * 4 + 1, none⟩) (fun _ => rfl) _).setCell (p := ⟨Y.cg, c * 4 + 2, none⟩) (fun _ => rfl) _).setCell (p := ⟨Y.cg, c * 4 + 3, none⟩) (fun _ => rfl) _
  refine h.recore hc (s' := ⟨m', q', g'⟩) (vs' := vs') (vgc := vgc) (vtc := vtc) (gbc := gbc) (vfc := vfc) (voc := voc) (vlc := vlc) (tkc := tkc) (ttc := ttc) (vtlc := vtlc) hK hup ((hs3.keepAll (k34 (fun _ => False)) (fun _ _ q => q)).keepAll k45 hsa) ?_ (fun k => if k < w3.heap.size then .soc else tg k) (fun k q => ?_) ?_ (fun hu => ?_)
  · have a1 : Keep (fun k => SocF Y.S b.n Y.vs k ∨ k = Y.cg) w w4 := (k3.mono (fun k _ q => .inl q)).trans' (k34 _)
    exact a1.trans' (k45.mono (fun k _ q => .inr q))
  · rcases n3 k q with e | e
    · exact .inl e
    · exact .inr ⟨e, by rw [if_pos (hlt3 k q)]⟩
  · intro cs hcs hlen
    have hcs4 := (hcs.keep k3 hcgF).keep (k34 (fun _ => False)) (fun q => q)
    refine ⟨(((cs.set (c * 4) A0).set (c * 4 + 1) A1).set (c * 4 + 2) .nilIface).set (c * 4 + 3) (.int .i64 (0 : Nat)), ?_, ?_, ?_, ?_, ?_, fun j hj => ?_⟩
    · subst hw5
      exact (((hcs4.set _ _).set _ _).set _ _).set _ _
    · rw [List.getElem?_set_ne (by omega), List.getElem?_set_ne (by omega), List.getElem?_set_ne (by omega), List.getElem?_set_self (by omega), h0]
    · rw [List.getElem?_set_ne (by omega), List.getElem?_set_ne (by omega), List.getElem?_set_self (by simp; omega), h1]
    · rw [List.getElem?_set_ne (by omega), List.getElem?_set_self (by simp; omega)]
    · rw [List.getElem?_set_self (by simp; omega)]
    · rw [List.getElem?_set_ne (by omega), List.getElem?_set_ne (by omega), List.getElem?_set_ne (by omega), List.getElem?_set_ne (by omega)]
  · obtain ⟨ca, ow⟩ := hco hu
    have hs := k3.size
    exact ⟨ca.keep ow k45 (fun k q e => by omega), ow.mono hs (fun k q => by rw [if_neg (by omega)])⟩
end
end Go.Proofs.YtaaffebnajjfhaaGreatDoor.T
