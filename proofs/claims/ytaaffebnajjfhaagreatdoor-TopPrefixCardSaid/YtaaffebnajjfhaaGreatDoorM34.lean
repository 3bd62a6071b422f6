/- Texts of this proof, merged: Brd6, Brd7, Brd8, Brd9. -/
import Derived.Test.YtaaffebnajjfhaaGreatDoorM32
namespace Go.Proofs.YtaaffebnajjfhaaGreatDoor.T
set_option linter.unusedVariables false
set_option linter.unusedSimpArgs false
open Go.RowKit
section
variable {w : World} {Y : Lay} {b : Bd}
set_option maxRecDepth 100000 in
theorem bStepT_stay {c p : Nat} (hc : c < b.n) (hp : p < b.n) (hpc : p ≠ c) (hu : b.upb c = true) (hrun : (b.cor c).runs = some (.tak p)) (ok : ((b.cor c).tak p).Ok b.n (chanWords b.n b.ring)) (h0 : ((b.cor c).tak p).pc ≠ 0) (hrng : 0 ≤ (b.sc.tch b.most c ((b.cor c).tak p).tch).2) (o : Tak × Bool × Int) (ho : ((b.cor c).tak p).go (b.sc.tch b.most c ((b.cor c).tak p).tch).2 = o) (hdn : o.2.1 = false) (h : BdAt w Y b) :
    Calls Tryz.prog 22 #[ptr Y.bd, .int .i64 c] w fun e w' => e = .returned (.int .i64 0) ∧ BdTo w Y b ((b.setSc (b.sc.tch b.most c ((b.cor c).tak p).tch).1).setCor c { b.cor c with tak := upd (b.cor c).tak p o.1 }) w' := by
  have hR := bReady_any c h
  have hr0 : b.readyR c = 0 := by unfold Bd.readyR; rw [if_pos (show b.has c from ⟨by omega, by omega⟩), if_pos (show b.up (c : Int).toNat from (upb_up b _).1 (by simpa using hu))]
  rw [hr0] at hR
  have hS := fun u q (hb : Below w.heap.size w u) (hq : PortAt u Y.S q c) => bTak_of hc hp hpc hu ok h0 hrng (h.fresh hb) hq
  rw [ho] at hS
  obtain ⟨g', dn, er⟩ := o
  simp only at hdn hS ⊢
  subst hdn
  have hk : ∀ u, Below w.heap.size w u → u.cell? ⟨Y.cg, c * 4 + 2, none⟩ = some (.iface 111 (.pointer (some ⟨Y.tk c p, 0, none⟩))) ∧ u.cell? ⟨Y.bd, 3, none⟩ = some (.pointer (some ⟨Y.S.soc, 0, none⟩)) := by
    intro u hb
    have := (h.fresh hb).runCells hc
    rw [hrun] at this
    exact ⟨this.1, this.2.2.1⟩
  have c4 := (h.runCells hc).2.2.2.1
  have hc0 : (0 : Int) ≤ (c : Int) := by omega
  have hc1 : (c : Int) < (b.n : Int) := by omega
  have cr := (hk w (Below.refl _ _)).1
  have hin := ifc_nil 111 (Y.tk c p)
  have hn := ahead_tstep (Y.tk c p)
  have hm := meth_tstep (Y.tk c p)
  have hb := (Below.refl w.heap.size w).drew
  have HR := Lib.hid hR
  have HS := Lib.hid hS
  have HK := Lib.hid hk
  generalize hB1 : (b.setSc (b.sc.tch b.most c ((b.cor c).tak p).tch).1).setCor c { b.cor c with tak := upd (b.cor c).tak p g' } = b1 at *
  clear hR hS hk h hr0 hrun ok h0 hrng ho hB1
  unfold ptr at *
  go_enter Tryz.func22, Tryz.ntmps22
  go_wp2_with fail
  refine HR.out.mono ?_
  rintro e w' ⟨rfl, rfl⟩
  go_wp2_with fail
  go_region_held3 (fun u => u.cell? ⟨Y.cg, c * 4 + 2, none⟩ = some (.iface 111 (.pointer (some ⟨Y.tk c p, 0, none⟩))) ∧ u.cell? ⟨Y.bd, 3, none⟩ = some (.pointer (some ⟨Y.S.soc, 0, none⟩)))
    (first | exact HK.out _ hb | assumption)
    (first | (go_at_call 49; refine (ofCore_any Y.S c _).mono ?_; rintro e w1 ⟨rfl, rfl⟩; have hb1 := hb.alloc hb.size (.cells #[.pointer (some ⟨Y.S.soc, 0, none⟩), .int .i64 c] 165); have hq1 := HK.out _ hb1) | (go_at_call 168; refine (HS.out _ _ hb1 (Blk.new _ _ _)).mono ?_; rintro e w2 ⟨rfl, hT2, hC2⟩; have hq2 := And.intro ((hC2 ⟨Y.cg, c * 4 + 2, none⟩ (.inr (.inl rfl))).trans hq1.1) ((hC2 ⟨Y.bd, 3, none⟩ (.inl rfl)).trans hq1.2)))
  have HT := Lib.hid (BdTo.from_ hb1 hT2)
  clear hT2 hC2 hq2 hq1
  go_wp2_with fail
  go_ret
  exact ⟨rfl, HT.out⟩
set_option maxRecDepth 100000 in
theorem bStepT_endNo {c p : Nat} (hc : c < b.n) (hp : p < b.n) (hpc : p ≠ c) (hu : b.upb c = true) (hrun : (b.cor c).runs = some (.tak p)) (hent : (b.cor c).entry < b.diary.length) (ok : ((b.cor c).tak p).Ok b.n (chanWords b.n b.ring)) (h0 : ((b.cor c).tak p).pc ≠ 0) (hrng : 0 ≤ (b.sc.tch b.most c ((b.cor c).tak p).tch).2) (o : Tak × Bool × Int) (ho : ((b.cor c).tak p).go (b.sc.tch b.most c ((b.cor c).tak p).tch).2 = o) (hdn : o.2.1 = true) (hno : ¬ ((b.diary.getD (b.cor c).entry Ent.none_).kind = 2 ∧ o.2.2 = 0)) (h : BdAt w Y b) :
    Calls Tryz.prog 22 #[ptr Y.bd, .int .i64 c] w fun e w' => e = .returned (.int .i64 0) ∧ BdTo w Y b { (b.setSc (b.sc.tch b.most c ((b.cor c).tak p).tch).1).setCor c { b.cor c with tak := upd (b.cor c).tak p o.1, runs := none } with diary := b.finT (b.cor c).entry o.2.2 o.1.gotR } w' := by
  have hR := bReady_any c h
  have hr0 : b.readyR c = 0 := by unfold Bd.readyR; rw [if_pos (show b.has c from ⟨by omega, by omega⟩), if_pos (show b.up (c : Int).toNat from (upb_up b _).1 (by simpa using hu))]
  rw [hr0] at hR
  have hS := fun u q (hb : Below w.heap.size w u) (hq : PortAt u Y.S q c) => bTak_of hc hp hpc hu ok h0 hrng (h.fresh hb) hq
  rw [ho] at hS
  obtain ⟨g', dn, er⟩ := o
  simp only at hdn hS hno ⊢
  subst hdn
  have hft : b.finT (b.cor c).entry er g'.gotR = b.fin (b.cor c).entry er := by unfold Bd.finT Bd.fin; simp only; rw [if_neg hno]
  rw [hft]
  clear hft
  have hk : ∀ u, Below w.heap.size w u → u.cell? ⟨Y.cg, c * 4 + 2, none⟩ = some (.iface 111 (.pointer (some ⟨Y.tk c p, 0, none⟩))) ∧ u.cell? ⟨Y.bd, 3, none⟩ = some (.pointer (some ⟨Y.S.soc, 0, none⟩)) := by
    intro u hb
    have := (h.fresh hb).runCells hc
    rw [hrun] at this
    exact ⟨this.1, this.2.2.1⟩
  have c4 := (h.runCells hc).2.2.2.1
  have hc0 : (0 : Int) ≤ (c : Int) := by omega
  have hc1 : (c : Int) < (b.n : Int) := by omega
  have cr := (hk w (Below.refl _ _)).1
  have hin := ifc_nil 111 (Y.tk c p)
  have hn := ahead_tstep (Y.tk c p)
  have hm := meth_tstep (Y.tk c p)
  have hb := (Below.refl w.heap.size w).drew
  have HR := Lib.hid hR
  have HS := Lib.hid hS
  have HK := Lib.hid hk
  generalize hB1 : (b.setSc (b.sc.tch b.most c ((b.cor c).tak p).tch).1).setCor c { b.cor c with tak := upd (b.cor c).tak p g' } = b1 at *
  have hfin : ({ (b.setSc (b.sc.tch b.most c ((b.cor c).tak p).tch).1).setCor c { b.cor c with tak := upd (b.cor c).tak p g', runs := none } with diary := b.fin (b.cor c).entry er } : Bd) = ({ b1 with diary := b1.diary.set (b1.cor c).entry { b1.diary.getD (b1.cor c).entry Ent.none_ with fin := b1.now, err := er } } : Bd).setCor c { ({ b1 with diary := b1.diary.set (b1.cor c).entry { b1.diary.getD (b1.cor c).entry Ent.none_ with fin := b1.now, err := er } } : Bd).cor c with runs := none } := by
    subst hB1
    have hcc : ((b.setSc (b.sc.tch b.most c ((b.cor c).tak p).tch).1).setCor c { b.cor c with tak := upd (b.cor c).tak p g' }).cor c = { b.cor c with tak := upd (b.cor c).tak p g' } := upd_same _ _ _
    simp only [hcc]
    simp only [Bd.setCor, Bd.setSc, Bd.fin, upd_upd]
  rw [hfin]
  have hc' : c < b1.n := by subst hB1; exact hc
  have hlen : b1.diary.length = b.diary.length := by subst hB1; rfl
  have hnow : b1.now = b.now := by subst hB1; rfl
  have hkd : (b1.diary.getD (b1.cor c).entry Ent.none_).kind = (b.diary.getD (b.cor c).entry Ent.none_).kind := by subst hB1; rw [show ((b.setSc (b.sc.tch b.most c ((b.cor c).tak p).tch).1).setCor c { b.cor c with tak := upd (b.cor c).tak p g' }).cor c = { b.cor c with tak := upd (b.cor c).tak p g' } from upd_same _ _ _]; rfl
  rw [← hkd] at hno
  have hent1 : (b1.cor c).entry < b1.diary.length := by subst hB1; rw [show ((b.setSc (b.sc.tch b.most c ((b.cor c).tak p).tch).1).setCor c { b.cor c with tak := upd (b.cor c).tak p g' }).cor c = { b.cor c with tak := upd (b.cor c).tak p g' } from upd_same _ _ _]; exact hent
  have hrun1 : (b1.cor c).runs = some (.tak p) := by subst hB1; rw [show ((b.setSc (b.sc.tch b.most c ((b.cor c).tak p).tch).1).setCor c { b.cor c with tak := upd (b.cor c).tak p g' }).cor c = { b.cor c with tak := upd (b.cor c).tak p g' } from upd_same _ _ _]; exact hrun
  clear hR hS hk h hr0 hrun ok h0 hrng ho hB1 hfin hent hlen hnow hkd
  unfold ptr at *
  go_enter Tryz.func22, Tryz.ntmps22
  go_wp2_with fail
  refine HR.out.mono ?_
  rintro e w' ⟨rfl, rfl⟩
  go_wp2_with fail
  go_region_held3 (fun u => u.cell? ⟨Y.cg, c * 4 + 2, none⟩ = some (.iface 111 (.pointer (some ⟨Y.tk c p, 0, none⟩))) ∧ u.cell? ⟨Y.bd, 3, none⟩ = some (.pointer (some ⟨Y.S.soc, 0, none⟩)))
    (first | exact HK.out _ hb | assumption)
    (first | (go_at_call 49; refine (ofCore_any Y.S c _).mono ?_; rintro e w1 ⟨rfl, rfl⟩; have hb1 := hb.alloc hb.size (.cells #[.pointer (some ⟨Y.S.soc, 0, none⟩), .int .i64 c] 165); have hq1 := HK.out _ hb1) | (go_at_call 168; refine (HS.out _ _ hb1 (Blk.new _ _ _)).mono ?_; rintro e w2 ⟨rfl, hT2, hC2⟩; have hq2 := And.intro ((hC2 ⟨Y.cg, c * 4 + 2, none⟩ (.inr (.inl rfl))).trans hq1.1) ((hC2 ⟨Y.bd, 3, none⟩ (.inl rfl)).trans hq1.2)))
  obtain ⟨Y1, ⟨y1, y2⟩, h1, k1, n1⟩ := BdTo.from_ hb1 hT2
  have HST := Lib.hid (And.intro k1 n1)
  clear hT2 hC2 hq2 hq1 k1 n1 c4 cr HK HS hb hb1
  have rc := h1.runCells hc'
  obtain ⟨dg, dc, hv, hdc, e2, e4, e5, e6, e7, f4, f5, f6, f7, ne1, ne2⟩ := h1.entCell hent1
  rw [hrun1, y1, y2, hv] at rc
  obtain ⟨r2, r3, r_, r4, r5, r6, g2, g3⟩ := rc
  simp only [runV, ptr] at r2
  have hfinT := h1.setFin hent1 er hv
  have HF := Lib.hid hfinT
  have ek0 : (0 : Int) ≤ ((b1.cor c).entry : Int) := by omega
  have ek1 : ((b1.cor c).entry : Int) < (b1.diary.length : Int) := by omega
  have HRUN := Lib.hid (And.intro hrun1 hc'); clear hrun1 hc'
  clear hfinT h1 r_ r4 e6 e7 f6 f7 hv
  generalize hen : (b1.cor c).entry = en at *
  generalize hkk : (b1.diary.getD en Ent.none_).kind = kd at *
  generalize hle : b1.diary.length = len at *
  clear hle
  have HEN := Lib.hid (And.intro hen hkk); clear hen hkk
  have hyes := assert_yes (Y.tk c p)
  have hyes1 := assert_yes (Y1.tk c p)
  by_cases hk2 : kd = 2
  · have he1 : (er == 0) = false := by
      rw [beq_eq_false_iff_ne]
      exact fun q => hno ⟨hk2, q⟩
    have hke : ((kd : Int) == 2) = true := by rw [beq_iff_eq]; omega
    clear hno hk2
    go_wp2_with fail
    go_region
    go_wp2_with fail
    go_ret
    refine ⟨rfl, BdTo.step ⟨y1, y2⟩ HST.out.1 HST.out.2 ?_⟩
    obtain ⟨Y2, ⟨z1, z2⟩, h2, k2, n2⟩ := HF.out
    have hi := h2.setIdle (c := c) HRUN.out.2
    rw [z2, y2] at hi
    have hen := HEN.out.1
    clear HEN
    subst hen
    exact (BdTo.step ⟨z1, z2⟩ k2 n2 hi).fresh (Below.refl _ _).drew
  · have hke : ((kd : Int) == 2) = false := by rw [beq_eq_false_iff_ne]; omega
    clear hno hk2
    go_wp2_with fail
    go_region
    go_wp2_with fail
    go_ret
    refine ⟨rfl, BdTo.step ⟨y1, y2⟩ HST.out.1 HST.out.2 ?_⟩
    obtain ⟨Y2, ⟨z1, z2⟩, h2, k2, n2⟩ := HF.out
    have hi := h2.setIdle (c := c) HRUN.out.2
    rw [z2, y2] at hi
    have hen := HEN.out.1
    clear HEN
    subst hen
    exact (BdTo.step ⟨z1, z2⟩ k2 n2 hi).fresh (Below.refl _ _).drew
end
end Go.Proofs.YtaaffebnajjfhaaGreatDoor.T
namespace Go.Proofs.YtaaffebnajjfhaaGreatDoor.T
set_option linter.unusedVariables false
set_option linter.unusedSimpArgs false
open Go.RowKit
section
variable {w : World} {Y : Lay} {b : Bd}
set_option maxRecDepth 100000 in
theorem bStepT_endGot {c p : Nat} (hc : c < b.n) (hp : p < b.n) (hpc : p ≠ c) (hu : b.upb c = true) (hrun : (b.cor c).runs = some (.tak p)) (hent : (b.cor c).entry < b.diary.length) (ok : ((b.cor c).tak p).Ok b.n (chanWords b.n b.ring)) (h0 : ((b.cor c).tak p).pc ≠ 0) (hrng : 0 ≤ (b.sc.tch b.most c ((b.cor c).tak p).tch).2) (o : Tak × Bool × Int) (ho : ((b.cor c).tak p).go (b.sc.tch b.most c ((b.cor c).tak p).tch).2 = o) (hdn : o.2.1 = true) (hyes : (b.diary.getD (b.cor c).entry Ent.none_).kind = 2 ∧ o.2.2 = 0) (hll : o.1.load.length ≤ 1000) (h : BdAt w Y b) :
    Calls Tryz.prog 22 #[ptr Y.bd, .int .i64 c] w fun e w' => e = .returned (.int .i64 0) ∧ BdTo w Y b { (b.setSc (b.sc.tch b.most c ((b.cor c).tak p).tch).1).setCor c { b.cor c with tak := upd (b.cor c).tak p o.1, runs := none } with diary := b.finT (b.cor c).entry o.2.2 o.1.gotR } w' := by
  have hR := bReady_any c h
  have hr0 : b.readyR c = 0 := by unfold Bd.readyR; rw [if_pos (show b.has c from ⟨by omega, by omega⟩), if_pos (show b.up (c : Int).toNat from (upb_up b _).1 (by simpa using hu))]
  rw [hr0] at hR
  have hS := fun u q (hb : Below w.heap.size w u) (hq : PortAt u Y.S q c) => bTak_of hc hp hpc hu ok h0 hrng (h.fresh hb) hq
  rw [ho] at hS
  obtain ⟨g', dn, er⟩ := o
  simp only at hdn hS hyes hll ⊢
  subst hdn
  have hft : b.finT (b.cor c).entry er g'.gotR = b.diary.set (b.cor c).entry { b.diary.getD (b.cor c).entry Ent.none_ with fin := b.now, err := er, load := nats g'.gotR.1, handle := g'.gotR.2 } := by unfold Bd.finT; simp only; rw [if_pos hyes]; rfl
  rw [hft]
  clear hft
  have hk : ∀ u, Below w.heap.size w u → u.cell? ⟨Y.cg, c * 4 + 2, none⟩ = some (.iface 111 (.pointer (some ⟨Y.tk c p, 0, none⟩))) ∧ u.cell? ⟨Y.bd, 3, none⟩ = some (.pointer (some ⟨Y.S.soc, 0, none⟩)) := by
    intro u hb
    have := (h.fresh hb).runCells hc
    rw [hrun] at this
    exact ⟨this.1, this.2.2.1⟩
  have c4 := (h.runCells hc).2.2.2.1
  have hc0 : (0 : Int) ≤ (c : Int) := by omega
  have hc1 : (c : Int) < (b.n : Int) := by omega
  have cr := (hk w (Below.refl _ _)).1
  have hin := ifc_nil 111 (Y.tk c p)
  have hn := ahead_tstep (Y.tk c p)
  have hm := meth_tstep (Y.tk c p)
  have hb := (Below.refl w.heap.size w).drew
  have HR := Lib.hid hR
  have HS := Lib.hid hS
  have HK := Lib.hid hk
  generalize hB1 : (b.setSc (b.sc.tch b.most c ((b.cor c).tak p).tch).1).setCor c { b.cor c with tak := upd (b.cor c).tak p g' } = b1 at *
  have hfin : ({ (b.setSc (b.sc.tch b.most c ((b.cor c).tak p).tch).1).setCor c { b.cor c with tak := upd (b.cor c).tak p g', runs := none } with diary := b.diary.set (b.cor c).entry { b.diary.getD (b.cor c).entry Ent.none_ with fin := b.now, err := er, load := nats g'.gotR.1, handle := g'.gotR.2 } } : Bd) = ({ b1 with diary := b1.diary.set (b1.cor c).entry { b1.diary.getD (b1.cor c).entry Ent.none_ with fin := b1.now, err := er, load := nats g'.gotR.1, handle := g'.gotR.2 } } : Bd).setCor c { ({ b1 with diary := b1.diary.set (b1.cor c).entry { b1.diary.getD (b1.cor c).entry Ent.none_ with fin := b1.now, err := er, load := nats g'.gotR.1, handle := g'.gotR.2 } } : Bd).cor c with runs := none } := by
    subst hB1
    have hcc : ((b.setSc (b.sc.tch b.most c ((b.cor c).tak p).tch).1).setCor c { b.cor c with tak := upd (b.cor c).tak p g' }).cor c = { b.cor c with tak := upd (b.cor c).tak p g' } := upd_same _ _ _
    simp only [hcc]
    simp only [Bd.setCor, Bd.setSc, upd_upd]
  rw [hfin]
  have hc' : c < b1.n := by subst hB1; exact hc
  have hlen : b1.diary.length = b.diary.length := by subst hB1; rfl
  have hnow : b1.now = b.now := by subst hB1; rfl
  have hkd : (b1.diary.getD (b1.cor c).entry Ent.none_).kind = (b.diary.getD (b.cor c).entry Ent.none_).kind := by subst hB1; rw [show ((b.setSc (b.sc.tch b.most c ((b.cor c).tak p).tch).1).setCor c { b.cor c with tak := upd (b.cor c).tak p g' }).cor c = { b.cor c with tak := upd (b.cor c).tak p g' } from upd_same _ _ _]; rfl
  rw [← hkd] at hyes
  have htk : (b1.cor c).tak p = g' := by subst hB1; rw [show ((b.setSc (b.sc.tch b.most c ((b.cor c).tak p).tch).1).setCor c { b.cor c with tak := upd (b.cor c).tak p g' }).cor c = { b.cor c with tak := upd (b.cor c).tak p g' } from upd_same _ _ _]; exact upd_same _ _ _
  have hub : b1.upb c = true := by subst hB1; unfold Bd.upb at hu ⊢; show (!((b.sc.tch b.most c ((b.cor c).tak p).tch).1.g.held.getD c false)) = true; rw [tch_g]; exact hu
  have hn1 : b1.n = b.n := by subst hB1; rfl
  have hent1 : (b1.cor c).entry < b1.diary.length := by subst hB1; rw [show ((b.setSc (b.sc.tch b.most c ((b.cor c).tak p).tch).1).setCor c { b.cor c with tak := upd (b.cor c).tak p g' }).cor c = { b.cor c with tak := upd (b.cor c).tak p g' } from upd_same _ _ _]; exact hent
  have hrun1 : (b1.cor c).runs = some (.tak p) := by subst hB1; rw [show ((b.setSc (b.sc.tch b.most c ((b.cor c).tak p).tch).1).setCor c { b.cor c with tak := upd (b.cor c).tak p g' }).cor c = { b.cor c with tak := upd (b.cor c).tak p g' } from upd_same _ _ _]; exact hrun
  clear hR hS hk h hr0 hrun ok h0 hrng ho hB1 hfin hent hlen hnow hkd
  unfold ptr at *
  go_enter Tryz.func22, Tryz.ntmps22
  go_wp2_with fail
  refine HR.out.mono ?_
  rintro e w' ⟨rfl, rfl⟩
  go_wp2_with fail
  go_region_held3 (fun u => u.cell? ⟨Y.cg, c * 4 + 2, none⟩ = some (.iface 111 (.pointer (some ⟨Y.tk c p, 0, none⟩))) ∧ u.cell? ⟨Y.bd, 3, none⟩ = some (.pointer (some ⟨Y.S.soc, 0, none⟩)))
    (first | exact HK.out _ hb | assumption)
    (first | (go_at_call 49; refine (ofCore_any Y.S c _).mono ?_; rintro e w1 ⟨rfl, rfl⟩; have hb1 := hb.alloc hb.size (.cells #[.pointer (some ⟨Y.S.soc, 0, none⟩), .int .i64 c] 165); have hq1 := HK.out _ hb1) | (go_at_call 168; refine (HS.out _ _ hb1 (Blk.new _ _ _)).mono ?_; rintro e w2 ⟨rfl, hT2, hC2⟩; have hq2 := And.intro ((hC2 ⟨Y.cg, c * 4 + 2, none⟩ (.inr (.inl rfl))).trans hq1.1) ((hC2 ⟨Y.bd, 3, none⟩ (.inl rfl)).trans hq1.2)))
  obtain ⟨Y1, ⟨y1, y2⟩, h1, k1, n1⟩ := BdTo.from_ hb1 hT2
  have HST := Lib.hid (And.intro k1 n1)
  clear hT2 hC2 hq1 k1 n1 c4 cr HK HS hb hb1
  have rc := h1.runCells hc'
  obtain ⟨dg, dc, hv, hdc, e2, e4, e5, e6, e7, f4, f5, f6, f7, ne1, ne2⟩ := h1.entCell hent1
  rw [hrun1, y1, y2, hv] at rc
  obtain ⟨r2, r3, r_, r4, r5, r6, g2, g3⟩ := rc
  simp only [runV, ptr] at r2
  have htk1 : Y1.tk c p = Y.tk c p := by
    have q1 := r2
    rw [hq2.1] at q1
    injection q1 with q1
    injection q1 with _ q1
    injection q1 with q1
    injection q1 with q1
    injection q1 with q1
    exact q1.symm
  rw [htk1] at r2
  obtain ⟨Y2, ⟨z1, z2⟩, h2, k2, n2⟩ := h1.setFin hent1 er hv
  have hent2 : (b1.cor c).entry < (b1.diary.set (b1.cor c).entry { b1.diary.getD (b1.cor c).entry Ent.none_ with fin := b1.now, err := er }).length := by rw [List.length_set]; exact hent1
  have v2 : Y2.vd = .slice (some ⟨dg, 0, none⟩) b1.diary.length dc := by
    have q1 : ((w2.setCell ⟨dg, (b1.cor c).entry * 8 + 4, none⟩ (.int .i64 b1.now)).setCell ⟨dg, (b1.cor c).entry * 8 + 5, none⟩ (.int .i64 er)).cell? ⟨Y2.bd, 5, none⟩ = some Y2.vd := h2.board.cell 5
    rw [z1, y1, World.cell?_setCell_other _ _ _ _ (by simp [Ne.symm ne1, y1 ▸ Ne.symm ne1]), World.cell?_setCell_other _ _ _ _ (by simp [Ne.symm ne1, y1 ▸ Ne.symm ne1]), r5] at q1
    injection q1 with q1
    exact q1.symm
  have htk2 : Y2.tk c p = Y.tk c p := by
    have q1 := (h2.runCells (c := c) hc').1
    rw [z2, y2, World.cell?_setCell_other _ _ _ _ (by simp [y2 ▸ Ne.symm ne2]), World.cell?_setCell_other _ _ _ _ (by simp [y2 ▸ Ne.symm ne2]), r2] at q1
    rw [show ({ b1 with diary := b1.diary.set (b1.cor c).entry { b1.diary.getD (b1.cor c).entry Ent.none_ with fin := b1.now, err := er } } : Bd).cor c = b1.cor c from rfl, hrun1] at q1
    injection q1 with q1
    injection q1 with _ q1
    injection q1 with q1
    injection q1 with q1
    injection q1 with q1
    exact q1.symm
  have hG := fun u (hb : Below ((w2.setCell ⟨dg, (b1.cor c).entry * 8 + 4, none⟩ (.int .i64 b1.now)).setCell ⟨dg, (b1.cor c).entry * 8 + 5, none⟩ (.int .i64 er)).heap.size ((w2.setCell ⟨dg, (b1.cor c).entry * 8 + 4, none⟩ (.int .i64 b1.now)).setCell ⟨dg, (b1.cor c).entry * 8 + 5, none⟩ (.int .i64 er)) u) => tGot_any (Y2.tk c p) (Y2.tt c p) (Y2.vtl c p) _ u ((h2.fresh hb).tak c p hc' (by show p < b1.n; rw [hn1]; exact hp) hpc hub) (by show ((b1.cor c).tak p).load.length ≤ 1000; rw [htk]; exact hll)
  rw [show (({ b1 with diary := b1.diary.set (b1.cor c).entry { b1.diary.getD (b1.cor c).entry Ent.none_ with fin := b1.now, err := er } } : Bd).cor c).tak p = g' from htk, htk2] at hG
  have hfacts := fun u (hb : Below ((w2.setCell ⟨dg, (b1.cor c).entry * 8 + 4, none⟩ (.int .i64 b1.now)).setCell ⟨dg, (b1.cor c).entry * 8 + 5, none⟩ (.int .i64 er)).heap.size ((w2.setCell ⟨dg, (b1.cor c).entry * 8 + 4, none⟩ (.int .i64 b1.now)).setCell ⟨dg, (b1.cor c).entry * 8 + 5, none⟩ (.int .i64 er)) u) => And.intro ((h2.fresh hb).entCell hent2) ((h2.fresh hb).runCells (c := c) hc')
  have hlen2 : (b1.diary.set (b1.cor c).entry { b1.diary.getD (b1.cor c).entry Ent.none_ with fin := b1.now, err := er }).length = b1.diary.length := List.length_set
  have H2 := Lib.hid (And.intro h2 (And.intro k2 (And.intro n2 (And.intro z1 (And.intro z2 (And.intro v2 (And.intro hent2 (And.intro hlen2 (And.intro hfacts (And.intro htk2 hrun1))))))))))
  have HG := Lib.hid hG
  have ek0 : (0 : Int) ≤ ((b1.cor c).entry : Int) := by omega
  have ek1 : ((b1.cor c).entry : Int) < (b1.diary.length : Int) := by omega
  have HRUN := Lib.hid (And.intro hrun1 hc'); clear hrun1 hc'
  obtain ⟨hyk, hye⟩ := hyes
  rw [hyk] at e2
  subst hye
  clear h1 r_ r4 e6 e7 f6 f7 hv hq2 h2 k2 n2 v2 hent2 hlen2 hfacts hG htk htk2 hyk
  generalize hen : (b1.cor c).entry = en at *
  generalize hle : b1.diary.length = len at *
  have HEN := Lib.hid (And.intro hen hle); clear hen hle
  have hyes := assert_yes (Y.tk c p)
  go_wp2_with fail
  go_region
  go_wp2_with fail
  refine (HG.out _ (Below.refl _ _).drew).mono ?_
  rintro e w4 ⟨v4, rfl, hR4, ho4, hb4⟩
  have hb5 := (Below.refl _ ((w2.setCell ⟨dg, en * 8 + 4, none⟩ (.int .i64 b1.now)).setCell ⟨dg, en * 8 + 5, none⟩ (.int .i64 0))).drew.trans hb4
  obtain ⟨h2, k2, n2, z1, z2, v2, hent2, hlen2, hfacts, htk2, hrun1⟩ := H2.out
  obtain ⟨⟨dg', dc', hv', hdc', e2', e4', e5', e6, e7, f4', f5', f6, f7, ne1', ne2'⟩, s2, s3, s4, s5, s6, s7, s8, s9⟩ := hfacts w4 hb5
  have hset := h2.setGot hb5 hent2 v4 _ hR4 ho4 g'.gotR.2 (by rw [v2, hlen2])
  rw [v2] at hv'
  injection hv' with hv1 hv2 hv3
  injection hv1 with hv1
  injection hv1 with hv1 _
  subst hv1
  rw [show ({ b1 with diary := b1.diary.set en { b1.diary.getD en Ent.none_ with fin := b1.now, err := 0 } } : Bd).cor c = b1.cor c from rfl, hrun1, z2, y2] at s2
  rw [z2, y2] at s8
  simp only [runV, ptr] at s2
  obtain ⟨A4, c4, hv4, -, -⟩ := Row.slice hR4
  subst hv4
  have HX := Lib.hid (And.intro hset (And.intro k2 (And.intro n2 (And.intro z1 z2))))
  clear hset k2 n2 hfacts h2 hR4 ho4 hb4 hb5 z1 z2 v2 hent2 hlen2 hrun1 e2' e4' e5' f4' f5' s3 s4 s5 s6 s7 s9 htk2
  go_wp2_with fail
  go_ret
  refine ⟨rfl, BdTo.step ⟨y1, y2⟩ HST.out.1 HST.out.2 ?_⟩
  obtain ⟨hset, k2, n2, z1, z2⟩ := HX.out
  refine BdTo.step ⟨z1, z2⟩ k2 n2 ?_
  obtain ⟨Y3, ⟨x1, x2⟩, h3, k3, n3⟩ := hset
  have hi := h3.setIdle (c := c) HRUN.out.2
  rw [x2, z2, y2] at hi
  have hen := HEN.out.1
  have hfi := BdTo.step ⟨x1, x2⟩ k3 n3 hi
  have hss : (b1.diary.set en { b1.diary.getD en Ent.none_ with fin := b1.now, err := 0 }).set en { (b1.diary.set en { b1.diary.getD en Ent.none_ with fin := b1.now, err := 0 }).getD en Ent.none_ with load := nats g'.gotR.1, handle := g'.gotR.2 } = b1.diary.set en { b1.diary.getD en Ent.none_ with fin := b1.now, err := 0, load := nats g'.gotR.1, handle := g'.gotR.2 } := by
    rw [List.set_set, getD_set_ent _ _ _ _ (by have := HEN.out.2; omega), if_pos rfl]
  rw [hss] at hfi
  obtain ⟨hen, hle⟩ := HEN.out
  clear hss HEN HX HG H2 e7 f6 f7 e6 e4 e5 f4 f5 r5 r6 g2 g3 s2 s8
  subst hen
  exact hfi
end
end Go.Proofs.YtaaffebnajjfhaaGreatDoor.T
namespace Go.Proofs.YtaaffebnajjfhaaGreatDoor.T
set_option linter.unusedVariables false
set_option linter.unusedSimpArgs false
open Go.RowKit
section
variable {w : World} {Y : Lay} {b : Bd}
theorem nil_nne (w : World) : (binOp .neq 69 .nilIface .nilIface).run Tryz.prog w = .ok (.bool false) w := by kernel_rfl
theorem ifc_nne (t : Nat) (a : Nat) (w : World) : (binOp .neq 69 (.iface t (.pointer (some ⟨a, 0, none⟩))) .nilIface).run Tryz.prog w = .ok (.bool true) w := by kernel_rfl
theorem nil_nil (w : World) : (binOp .eql 69 .nilIface .nilIface).run Tryz.prog w = .ok (.bool true) w := by kernel_rfl
set_option maxRecDepth 100000 in
theorem bStep_none {c : Nat} (hc : c < b.n) (hu : b.upb c = true) (hrun : (b.cor c).runs = none) (h : BdAt w Y b) :
    Calls Tryz.prog 22 #[ptr Y.bd, .int .i64 c] w fun e w' => e = .returned (.int .i64 13) ∧ w = w' := by
  have hR := bReady_any c h
  have hr0 : b.readyR c = 0 := by unfold Bd.readyR; rw [if_pos (show b.has c from ⟨by omega, by omega⟩), if_pos (show b.up (c : Int).toNat from (upb_up b _).1 (by simpa using hu))]
  rw [hr0] at hR
  have hrc := h.runCells hc
  rw [hrun] at hrc
  have cr : w.cell? ⟨Y.cg, c * 4 + 2, none⟩ = some .nilIface := hrc.1
  have c4 := hrc.2.2.2.1
  have hc0 : (0 : Int) ≤ (c : Int) := by omega
  have hc1 : (c : Int) < (b.n : Int) := by omega
  have hin := nil_nil
  have HR := Lib.hid hR
  clear hR h hr0 hrun hrc
  unfold ptr at *
  go_enter Tryz.func22, Tryz.ntmps22
  go_wp2_with fail
  refine HR.out.mono ?_
  rintro e w' ⟨rfl, rfl⟩
  go_wp2_with fail
  go_ret
  exact ⟨rfl, rfl⟩
set_option maxRecDepth 100000 in
theorem bStep_not {c : Int} (hr : b.readyR c ≠ 0) (h : BdAt w Y b) :
    Calls Tryz.prog 22 #[ptr Y.bd, .int .i64 c] w fun e w' => e = .returned (.int .i64 (b.readyR c)) ∧ w = w' := by
  have hR := bReady_any c h
  have e1 : (b.readyR c != 0) = true := by simpa using hr
  generalize b.readyR c = r at *
  have HR := Lib.hid hR
  clear hR h hr
  unfold ptr at *
  go_enter Tryz.func22, Tryz.ntmps22
  go_wp2_with fail
  refine HR.out.mono ?_
  rintro e w' ⟨rfl, rfl⟩
  go_wp2_with fail
  go_ret
  exact ⟨rfl, rfl⟩
theorem bStep_any {P : Nat → List Rec} {C : Nat → Option Rec} (hI : BI b P C) {c : Nat} (hc : c < b.n) (hu : b.upb c = true) (h : BdAt w Y b) :
    Calls Tryz.prog 22 #[ptr Y.bd, .int .i64 c] w fun e w' => e = .returned (.int .i64 (b.step c).2) ∧ BdTo w Y b (b.step c).1 w' := by
  have hran := hI.ran c hc
  unfold Bd.Ran at hran
  cases hrun : (b.cor c).runs with
  | none =>
    have e1 : b.step c = (b, 13) := by unfold Bd.step; simp only [hrun]
    rw [e1]
    refine (bStep_none hc hu hrun h).mono ?_
    rintro e w' ⟨he, rfl⟩
    exact ⟨he, BdTo.refl h⟩
  | some r =>
    rw [hrun] at hran
    cases r with
    | giv p =>
      obtain ⟨_, hp, hpc, hent, x, hx, hxp⟩ := hran
      have hm := hI.mach c p hc hp hpc hu
      obtain ⟨G, hj, hd⟩ := hI.ch c p hc hp (Ne.symm hpc)
      have h0 := (hd.rung x hx hxp).2.1
      generalize ho : ((b.cor c).giv p).go (b.sc.tch b.most c ((b.cor c).giv p).tch).2 = o
      by_cases hdn : o.2.1 = true
      · have e1 : b.step c = ({ (b.setSc (b.sc.tch b.most c ((b.cor c).giv p).tch).1).setCor c { b.cor c with giv := upd (b.cor c).giv p o.1, runs := none } with diary := b.fin (b.cor c).entry o.2.2 }, 0) := by unfold Bd.step; simp only [hrun, ho]; rw [if_pos hdn]
        rw [e1]
        exact bStepG_end hc hp hpc hu hrun hent hm.giv h0 o ho hdn h
      · have e1 : b.step c = ((b.setSc (b.sc.tch b.most c ((b.cor c).giv p).tch).1).setCor c { b.cor c with giv := upd (b.cor c).giv p o.1 }, 0) := by unfold Bd.step; simp only [hrun, ho]; rw [if_neg hdn]
        rw [e1]
        exact bStepG_stay hc hp hpc hu hrun hm.giv h0 o ho (by simpa using hdn) h
    | tak p =>
      obtain ⟨_, hp, hpc, hent, x, hx, hxp⟩ := hran
      have hm := hI.mach c p hc hp hpc hu
      obtain ⟨G, hj, hd⟩ := hI.ch p c hp hc hpc
      have h0 := (hd.runt x hx hxp).2.1
      have hrng := tch_rng hI hc ((b.cor c).tak p).tch
      have hs := Tak.go_step ((b.cor c).tak p) (b.sc.tch b.most c ((b.cor c).tak p).tch).2 h0 hm.tak.pc
      have hok' := hm.tak.go hs hrng.1 hrng.2
      generalize ho : ((b.cor c).tak p).go (b.sc.tch b.most c ((b.cor c).tak p).tch).2 = o at *
      by_cases hdn : o.2.1 = true
      · have e1 : b.step c = ({ (b.setSc (b.sc.tch b.most c ((b.cor c).tak p).tch).1).setCor c { b.cor c with tak := upd (b.cor c).tak p o.1, runs := none } with diary := b.finT (b.cor c).entry o.2.2 o.1.gotR }, 0) := by unfold Bd.step; simp only [hrun, ho]; rw [if_pos hdn]
        rw [e1]
        by_cases hy : (b.diary.getD (b.cor c).entry Ent.none_).kind = 2 ∧ o.2.2 = 0
        · exact bStepT_endGot hc hp hpc hu hrun hent hm.tak h0 hrng.1 o ho hdn hy (by have := hok'.len; omega) h
        · exact bStepT_endNo hc hp hpc hu hrun hent hm.tak h0 hrng.1 o ho hdn hy h
      · have e1 : b.step c = ((b.setSc (b.sc.tch b.most c ((b.cor c).tak p).tch).1).setCor c { b.cor c with tak := upd (b.cor c).tak p o.1 }, 0) := by unfold Bd.step; simp only [hrun, ho]; rw [if_neg hdn]
        rw [e1]
        exact bStepT_stay hc hp hpc hu hrun hm.tak h0 hrng.1 o ho (by simpa using hdn) h
set_option maxRecDepth 100000 in
theorem bBusy_any {c : Nat} (hc : c < b.n) (h : BdAt w Y b) :
    Calls Tryz.prog 12 #[ptr Y.bd, .int .i64 c] w fun e w' => e = .returned (.bool (b.cor c).runs.isSome) ∧ w = w' := by
  have hH := bHas_any (c : Int) h
  rw [decide_eq_true (show b.has c from ⟨by omega, by omega⟩)] at hH
  have hrc := h.runCells hc
  have c4 := hrc.2.2.2.1
  have cr := hrc.1
  have hc0 : (0 : Int) ≤ (c : Int) := by omega
  have hc1 : (c : Int) < (b.n : Int) := by omega
  have HH := Lib.hid hH
  clear hH h hrc
  cases hrun : (b.cor c).runs with
  | none =>
    rw [hrun] at cr
    replace cr : w.cell? ⟨Y.cg, c * 4 + 2, none⟩ = some .nilIface := cr
    have hin := nil_nne
    clear hrun
    unfold ptr at *
    go_enter Tryz.func12, Tryz.ntmps12
    go_wp2_with fail
    refine HH.out.mono ?_
    rintro e w' ⟨rfl, rfl⟩
    go_wp2_with fail
    go_ret
    exact ⟨rfl, rfl⟩
  | some r =>
    rw [hrun] at cr
    cases r with
    | giv p =>
      replace cr : w.cell? ⟨Y.cg, c * 4 + 2, none⟩ = some (.iface 109 (.pointer (some ⟨Y.gb c p, 0, none⟩))) := cr
      have hin := ifc_nne 109 (Y.gb c p)
      clear hrun
      unfold ptr at *
      go_enter Tryz.func12, Tryz.ntmps12
      go_wp2_with fail
      refine HH.out.mono ?_
      rintro e w' ⟨rfl, rfl⟩
      go_wp2_with fail
      go_ret
      exact ⟨rfl, rfl⟩
    | tak p =>
      replace cr : w.cell? ⟨Y.cg, c * 4 + 2, none⟩ = some (.iface 111 (.pointer (some ⟨Y.tk c p, 0, none⟩))) := cr
      have hin := ifc_nne 111 (Y.tk c p)
      clear hrun
      unfold ptr at *
      go_enter Tryz.func12, Tryz.ntmps12
      go_wp2_with fail
      refine HH.out.mono ?_
      rintro e w' ⟨rfl, rfl⟩
      go_wp2_with fail
      go_ret
      exact ⟨rfl, rfl⟩
end
end Go.Proofs.YtaaffebnajjfhaaGreatDoor.T
namespace Go.Proofs.YtaaffebnajjfhaaGreatDoor.T
set_option linter.unusedVariables false
set_option linter.unusedSimpArgs false
open Go.RowKit
def evV (x : Ev) (lv : Value) (o v : Int) : Value := .agg #[.int .i64 x.kind, .int .i64 x.core, .int .i64 x.peer, .int .i64 x.handle, lv, .int .i64 o, .int .i64 v]
def evCells (x : Ev) (lv : Value) (o v : Int) : List Value := [.int .i64 x.kind, .int .i64 x.core, .int .i64 x.peer, .int .i64 x.handle, lv, .int .i64 o, .int .i64 v]
section
variable {w : World} {Y : Lay} {b : Bd} {x : Ev} {lv : Value} {o v : Int}
theorem ev_box (x : Ev) (lv : Value) (o v : Int) (h : BdAt w Y b) : ∃ w1, w1 = w.alloc (.cells #[.int .i64 x.kind, .int .i64 x.core, .int .i64 x.peer, .int .i64 x.handle, lv, .int .i64 o, .int .i64 v] 33) ∧ Below w.heap.size w w1 ∧ Blk w1 w.heap.size 33 (evCells x lv o v) ∧ BdAt w1 Y b :=
  ⟨_, rfl, (Below.refl _ _).alloc (Nat.le_refl _) _, Blk.new _ _ _, h.fresh ((Below.refl _ _).alloc (Nat.le_refl _) _)⟩
set_option maxRecDepth 100000 in
theorem bCall_no1 (hh : ¬ b.has x.core) (h : BdAt w Y b) :
    Calls Tryz.prog 24 #[ptr Y.bd, evV x lv o v] w fun e w' => e = .returned (.int .i64 3) ∧ BdTo w Y b b w' := by
  obtain ⟨w1, hw1, hb1, he1, h1⟩ := ev_box x lv o v h
  have HW := Lib.hid hw1
  have ev0 := he1.cell 0
  have ev1 := he1.cell 1
  have ev2 := he1.cell 2
  have ev3 := he1.cell 3
  have ev4 := he1.cell 4
  simp only [evCells, List.getElem?_cons_zero, List.getElem?_cons_succ] at ev0 ev1 ev2 ev3 ev4
  have c4 := h1.board.cell 4
  simp only [List.getElem?_cons_zero, List.getElem?_cons_succ] at c4
  have hH := bHas_any x.core h1
  rw [decide_eq_false hh] at hH
  have HH := Lib.hid hH
  have HT := Lib.hid (((BdTo.refl h).fresh hb1))
  have HT2 := Lib.hid (((BdTo.refl h).fresh hb1.drew))
  obtain ⟨kind, core, peer, hd, load⟩ := x
  clear hw1 hb1 he1 h1 h hH hh c4
  unfold ptr evV at *
  go_enter Tryz.func24, Tryz.ntmps24
  go_wp2_with fail
  rw [← HW.out]
  refine HH.out.mono ?_
  rintro e w' ⟨rfl, rfl⟩
  go_wp2_with fail
  go_ret
  exact ⟨rfl, HT.out⟩
set_option maxRecDepth 100000 in
theorem bCall_no2 (hh : b.has x.core) (hh2 : ¬ b.has x.peer) (h : BdAt w Y b) :
    Calls Tryz.prog 24 #[ptr Y.bd, evV x lv o v] w fun e w' => e = .returned (.int .i64 3) ∧ BdTo w Y b b w' := by
  obtain ⟨w1, hw1, hb1, he1, h1⟩ := ev_box x lv o v h
  have HW := Lib.hid hw1
  have ev0 := he1.cell 0
  have ev1 := he1.cell 1
  have ev2 := he1.cell 2
  have ev3 := he1.cell 3
  have ev4 := he1.cell 4
  simp only [evCells, List.getElem?_cons_zero, List.getElem?_cons_succ] at ev0 ev1 ev2 ev3 ev4
  have c4 := h1.board.cell 4
  simp only [List.getElem?_cons_zero, List.getElem?_cons_succ] at c4
  have hH := bHas_any x.core h1
  rw [decide_eq_true hh] at hH
  have HH := Lib.hid hH
  have hP := bHas_any x.peer h1
  rw [decide_eq_false hh2] at hP
  have HP := Lib.hid hP
  have HT := Lib.hid (((BdTo.refl h).fresh hb1))
  have HT2 := Lib.hid (((BdTo.refl h).fresh hb1.drew))
  obtain ⟨kind, core, peer, hd, load⟩ := x
  clear hw1 hb1 he1 h1 h hH hP hh hh2 c4
  unfold ptr evV at *
  go_enter Tryz.func24, Tryz.ntmps24
  go_wp2_with fail
  rw [← HW.out]
  refine HH.out.mono ?_
  rintro e w' ⟨rfl, rfl⟩
  go_wp2_with fail
  refine HP.out.mono ?_
  rintro e w' ⟨rfl, rfl⟩
  go_wp2_with fail
  go_ret
  exact ⟨rfl, HT.out⟩
set_option maxRecDepth 100000 in
theorem bCall_down (hh : b.has x.core) (hh2 : b.has x.peer) (hu : ¬ b.up x.core.toNat) (h : BdAt w Y b) :
    Calls Tryz.prog 24 #[ptr Y.bd, evV x lv o v] w fun e w' => e = .returned (.int .i64 19) ∧ BdTo w Y b b w' := by
  obtain ⟨w1, hw1, hb1, he1, h1⟩ := ev_box x lv o v h
  have HW := Lib.hid hw1
  have ev0 := he1.cell 0
  have ev1 := he1.cell 1
  have ev2 := he1.cell 2
  have ev3 := he1.cell 3
  have ev4 := he1.cell 4
  simp only [evCells, List.getElem?_cons_zero, List.getElem?_cons_succ] at ev0 ev1 ev2 ev3 ev4
  have c4 := h1.board.cell 4
  simp only [List.getElem?_cons_zero, List.getElem?_cons_succ] at c4
  have hH := bHas_any x.core h1
  rw [decide_eq_true hh] at hH
  have HH := Lib.hid hH
  have hP := bHas_any x.peer h1
  rw [decide_eq_true hh2] at hP
  have HP := Lib.hid hP
  have hR := bReady_any x.core h1
  have hr : b.readyR x.core = 19 := by unfold Bd.readyR; rw [if_pos hh, if_neg hu]
  rw [hr] at hR
  have HR := Lib.hid hR
  obtain ⟨hc0, hc1⟩ := hh
  have HT := Lib.hid (((BdTo.refl h).fresh hb1))
  have HT2 := Lib.hid (((BdTo.refl h).fresh hb1.drew))
  obtain ⟨kind, core, peer, hd, load⟩ := x
  simp only at hc0 hc1
  clear hw1 hb1 he1 h1 h hH hP hR hr hh2 hu
  unfold ptr evV at *
  go_enter Tryz.func24, Tryz.ntmps24
  go_wp2_with fail
  rw [← HW.out]
  refine HH.out.mono ?_
  rintro e w' ⟨rfl, rfl⟩
  go_wp2_with fail
  refine HP.out.mono ?_
  rintro e w' ⟨rfl, rfl⟩
  go_wp2_with fail
  refine HR.out.mono ?_
  rintro e w' ⟨rfl, rfl⟩
  go_wp2_with fail
  go_region
  go_wp2_with fail
  go_ret
  exact ⟨rfl, HT2.out⟩
set_option maxRecDepth 100000 in
theorem bCall_self (hh : b.has x.core) (hu : b.up x.core.toNat) (hse : x.core = x.peer) (h : BdAt w Y b) :
    Calls Tryz.prog 24 #[ptr Y.bd, evV x lv o v] w fun e w' => e = .returned (.int .i64 2) ∧ BdTo w Y b b w' := by
  obtain ⟨w1, hw1, hb1, he1, h1⟩ := ev_box x lv o v h
  have HW := Lib.hid hw1
  have ev0 := he1.cell 0
  have ev1 := he1.cell 1
  have ev2 := he1.cell 2
  have ev3 := he1.cell 3
  have ev4 := he1.cell 4
  simp only [evCells, List.getElem?_cons_zero, List.getElem?_cons_succ] at ev0 ev1 ev2 ev3 ev4
  have c4 := h1.board.cell 4
  simp only [List.getElem?_cons_zero, List.getElem?_cons_succ] at c4
  have hH := bHas_any x.core h1
  rw [decide_eq_true hh] at hH
  have HH := Lib.hid hH
  have hR := bReady_any x.core h1
  have hr : b.readyR x.core = 0 := by unfold Bd.readyR; rw [if_pos hh, if_pos hu]
  rw [hr] at hR
  have HR := Lib.hid hR
  obtain ⟨hc0, hc1⟩ := hh
  have HT := Lib.hid (((BdTo.refl h).fresh hb1))
  have HT2 := Lib.hid (((BdTo.refl h).fresh hb1.drew))
  obtain ⟨kind, core, peer, hd, load⟩ := x
  simp only at hc0 hc1 hse
  subst hse
  clear hw1 hb1 he1 h1 h hH hR hr hu
  unfold ptr evV at *
  go_enter Tryz.func24, Tryz.ntmps24
  go_wp2_with fail
  rw [← HW.out]
  refine HH.out.mono ?_
  rintro e w' ⟨rfl, rfl⟩
  go_wp2_with fail
  refine HH.out.mono ?_
  rintro e w' ⟨rfl, rfl⟩
  go_wp2_with fail
  refine HR.out.mono ?_
  rintro e w' ⟨rfl, rfl⟩
  go_wp2_with fail
  go_region
  go_wp2_with fail
  go_ret
  exact ⟨rfl, HT2.out⟩
theorem runV_some (Y : Lay) (c : Nat) (r : Run) : ∃ t pb, runV Y c (some r) = .iface t (.pointer (some ⟨pb, 0, none⟩)) := by
  cases r <;> exact ⟨_, _, rfl⟩
set_option maxRecDepth 100000 in
theorem bCall_busy (hh : b.has x.core) (hh2 : b.has x.peer) (hu : b.up x.core.toNat) (hse : x.core ≠ x.peer) {r : Run} (hr1 : (b.cor x.core.toNat).runs = some r) (h : BdAt w Y b) :
    Calls Tryz.prog 24 #[ptr Y.bd, evV x lv o v] w fun e w' => e = .returned (.int .i64 11) ∧ BdTo w Y b b w' := by
  obtain ⟨w1, hw1, hb1, he1, h1⟩ := ev_box x lv o v h
  have HW := Lib.hid hw1
  have ev0 := he1.cell 0
  have ev1 := he1.cell 1
  have ev2 := he1.cell 2
  have ev3 := he1.cell 3
  have ev4 := he1.cell 4
  simp only [evCells, List.getElem?_cons_zero, List.getElem?_cons_succ] at ev0 ev1 ev2 ev3 ev4
  have c4 := h1.board.cell 4
  simp only [List.getElem?_cons_zero, List.getElem?_cons_succ] at c4
  have hH := bHas_any x.core h1
  rw [decide_eq_true hh] at hH
  have HH := Lib.hid hH
  have hP := bHas_any x.peer h1
  rw [decide_eq_true hh2] at hP
  have HP := Lib.hid hP
  have hR := bReady_any x.core h1
  have hr : b.readyR x.core = 0 := by unfold Bd.readyR; rw [if_pos hh, if_pos hu]
  rw [hr] at hR
  have HR := Lib.hid hR
  have hcr := h1.runCells (show x.core.toNat < b.n by have := hh.1; have := hh.2; omega)
  rw [hr1] at hcr
  have cr : w1.cell? ⟨Y.cg, x.core.toNat * 4 + 2, none⟩ = some (runV Y x.core.toNat (some r)) := hcr.1
  obtain ⟨hc0, hc1⟩ := hh
  have HT := Lib.hid (((BdTo.refl h).fresh hb1))
  have HT2 := Lib.hid (((BdTo.refl h).fresh hb1.drew))
  obtain ⟨kind, core, peer, hd, load⟩ := x
  simp only at hc0 hc1 hse cr
  obtain ⟨cn, rfl⟩ := Int.eq_ofNat_of_zero_le hc0
  simp only [Int.toNat_natCast] at cr
  obtain ⟨t, pb, hrv⟩ := runV_some Y cn r
  rw [hrv] at cr
  have hin := ifc_nne t pb
  clear hrv
  clear hw1 hb1 he1 h1 h hH hP hR hr hu hr1 hcr hh2
  unfold ptr evV at *
  go_enter Tryz.func24, Tryz.ntmps24
  go_wp2_with fail
  rw [← HW.out]
  refine HH.out.mono ?_
  rintro e w' ⟨rfl, rfl⟩
  go_wp2_with fail
  refine HP.out.mono ?_
  rintro e w' ⟨rfl, rfl⟩
  go_wp2_with fail
  refine HR.out.mono ?_
  rintro e w' ⟨rfl, rfl⟩
  go_wp2_with fail
  go_region
  go_wp2_with fail
  go_ret
  exact ⟨rfl, HT2.out⟩
end
end Go.Proofs.YtaaffebnajjfhaaGreatDoor.T
