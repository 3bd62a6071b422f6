/- Texts of this proof, merged: TTouch2, TAll. -/
import Derived.Test.YtaaffebnajjfhaaGreatDoorM21
import Derived.Test.YtaaffebnajjfhaaGreatDoorM28
import Derived.Test.YtaaffebnajjfhaaGreatDoorM22
import Derived.Test.YtaaffebnajjfhaaGreatDoorM29
import Derived.Test.YtaaffebnajjfhaaGreatDoorM30
import Derived.Test.YtaaffebnajjfhaaGreatDoorM23
namespace Go.Proofs.YtaaffebnajjfhaaGreatDoor.T
set_option linter.unusedVariables false
set_option linter.unusedSimpArgs false
open Go.RowKit
section
variable (S : SocL) (n W most : Nat) (vs : Nat → Value) (s : Sc) (p c : Nat) (hc : c < n) (hu : upAt s.g c) (b tb : Nat) (vl : Value) (g : Tak) (ok : g.Ok n W) (w : World)
include hc hu ok
set_option maxRecDepth 100000 in
theorem tTouch7 (hpc : g.pc = 7) (h : TakAt w b tb vl g) (hd : ∀ k, TakF b tb vl k → ¬ SocF S n vs k) (hA : Ahead w) (hp : PortAt w S p c) (hs : SocAt w S n W most vs s.m s.q s.g) :
    Calls Tryz.prog 170 #[.pointer (some ⟨b, 0, none⟩), port p] w fun e w' => e = .returned (.int .i64 (s.tch most c (.ld (g.base + 4 + 0 * g.ring + 1 * (g.head % g.ring) + 0))).2) ∧ TchTo w S n W most vs c s (.ld (g.base + 4 + 0 * g.ring + 1 * (g.head % g.ring) + 0)) w' := by
  have cp := h.blk.cell 10
  simp only [Tak.cells, List.getElem?_cons_zero, List.getElem?_cons_succ, hpc] at cp
  have hb := (Below.refl w.heap.size w).drew
  have o1 := ok.room
  have o2 := ok.word
  have o3 := ok.r1
  have o4 := ok.r64
  have hk : ∀ u, TakAt u b tb vl g → u.cell? ⟨b, 7, none⟩ = some (.int .i64 g.head) ∧ u.cell? ⟨b, 1, none⟩ = some (.int .i64 g.ring) := by
    intro u hu
    exact ⟨by have := hu.blk.cell 7; simpa [Tak.cells, hpc] using this, by have := hu.blk.cell 1; simpa [Tak.cells, hpc] using this⟩
  have hkb : ∀ u, Below w.heap.size w u → u.cell? ⟨b, 7, none⟩ = some (.int .i64 g.head) ∧ u.cell? ⟨b, 1, none⟩ = some (.int .i64 g.ring) := fun u hb => hk u (h.fresh hb)
  have hkt : ∀ u m q g0, SocTo w S n W most vs m q g0 u → u.cell? ⟨b, 7, none⟩ = some (.int .i64 g.head) ∧ u.cell? ⟨b, 1, none⟩ = some (.int .i64 g.ring) := fun u m q g0 hT => hk u (h.soc hd hT)
  have hr0 : ¬ g.ring = 0 := by omega
  have hr1 : ¬ (g.ring : Int) = 0 := by omega
  have hrm : g.head % g.ring < g.ring := Nat.mod_lt _ (by omega)
  have hrt : Int.tmod (g.head : Int) (g.ring : Int) = ((g.head % g.ring : Nat) : Int) := rfl
  have e1 : ((g.base : Int) + 4 + 0 * (g.ring : Int) + 1 * (((g.head % g.ring) : Nat) : Int) + 0) = ((g.base + 4 + 0 * g.ring + 1 * (g.head % g.ring) + 0 : Nat) : Int) := by omega
  have hP0 := fun u (hb : Below w.heap.size w u) => tPlace_of b tb vl g u (h.fresh hb) 5 ((g.head % g.ring : Nat) : Int) 0 _ (plotAt_5 g.base g.ring ((g.head % g.ring)) (by omega) (by omega) (by omega) u (hA.fresh hb))
  rw [e1] at hP0
  have hP := fun u (hb : Below w.heap.size w u) => from_below hb (hP0 u hb)
  clear hP0
  have hL := fun u (hb : Below w.heap.size w u) => from_below hb (pLoad_any S n W most vs s.m s.q s.g p c hc hu (g.base + 4 + 0 * g.ring + 1 * (g.head % g.ring) + 0) (by omega) u (hp.fresh hb) (hs.fresh hb))
  show Calls _ _ _ _ fun e w' => e = .returned (.int .i64 (seen s.m (s.q c) (g.base + 4 + 0 * g.ring + 1 * (g.head % g.ring) + 0))) ∧ SocTo w S n W most vs s.m s.q s.g w'
  generalize seen s.m (s.q c) (g.base + 4 + 0 * g.ring + 1 * (g.head % g.ring) + 0) = x at *
  generalize g.base + 4 + 0 * g.ring + 1 * (g.head % g.ring) + 0 = a at *
  have HL := Lib.hid hL; clear hL
  have HP := Lib.hid hP; clear hP
  have HKB := Lib.hid hkb; clear hkb
  have HKT := Lib.hid hkt; clear hkt hk
  have HS := Lib.hid hs
  clear hs h hp hpc hd hA o1 o2 o3 o4 e1
  have hn := ahead_load p
  have hm := meth_load p
  unfold port
  go_enter Tryz.func170, Tryz.ntmps170
  go_wp2_with fail
  go_region_held3 (fun u => u.cell? ⟨b, 7, none⟩ = some (.int .i64 g.head) ∧ u.cell? ⟨b, 1, none⟩ = some (.int .i64 g.ring))
    (first | exact HKB.out _ hb | assumption)
    (first | (go_at_call 178; refine (HP.out _ (by first | assumption | exact hb)).mono ?_; rintro e w1 ⟨rfl, hB1⟩; have hq1 := HKB.out w1 hB1) | (go_at_call 183; refine (HL.out _ (by first | assumption | exact hb)).mono ?_; rintro e w3 ⟨rfl, hB3⟩; have hq3 := HKB.out w3 hB3))
  go_wp2_with fail
  all_goals (go_ret; exact ⟨rfl, (SocTo.refl HS.out).fresh (by assumption)⟩)
set_option maxRecDepth 100000 in
theorem tTouch8 (hpc : g.pc = 8) (h : TakAt w b tb vl g) (hd : ∀ k, TakF b tb vl k → ¬ SocF S n vs k) (hA : Ahead w) (hp : PortAt w S p c) (hs : SocAt w S n W most vs s.m s.q s.g) :
    Calls Tryz.prog 170 #[.pointer (some ⟨b, 0, none⟩), port p] w fun e w' => e = .returned (.int .i64 (s.tch most c (.ld (g.base + 4 + 2 * g.ring + 1 * g.d + 0))).2) ∧ TchTo w S n W most vs c s (.ld (g.base + 4 + 2 * g.ring + 1 * g.d + 0)) w' := by
  have cp := h.blk.cell 10
  simp only [Tak.cells, List.getElem?_cons_zero, List.getElem?_cons_succ, hpc] at cp
  have hb := (Below.refl w.heap.size w).drew
  have o1 := ok.room
  have o2 := ok.word
  have o3 := ok.r1
  have o4 := ok.r64
  have hd8 := ok.d8 (by omega) (by omega)
  have hk : ∀ u, TakAt u b tb vl g → u.cell? ⟨b, 11, none⟩ = some (.int .i64 g.d) := by
    intro u hu
    exact (by have := hu.blk.cell 11; simpa [Tak.cells, hpc] using this)
  have hkb : ∀ u, Below w.heap.size w u → u.cell? ⟨b, 11, none⟩ = some (.int .i64 g.d) := fun u hb => hk u (h.fresh hb)
  have hkt : ∀ u m q g0, SocTo w S n W most vs m q g0 u → u.cell? ⟨b, 11, none⟩ = some (.int .i64 g.d) := fun u m q g0 hT => hk u (h.soc hd hT)
  have e1 : ((g.base : Int) + 4 + 2 * (g.ring : Int) + 1 * ((g.d : Nat) : Int) + 0) = ((g.base + 4 + 2 * g.ring + 1 * g.d + 0 : Nat) : Int) := by omega
  have hP0 := fun u (hb : Below w.heap.size w u) => tPlace_of b tb vl g u (h.fresh hb) 7 g.d 0 _ (plotAt_7 g.base g.ring (g.d) (by omega) (by omega) (by omega) u (hA.fresh hb))
  rw [e1] at hP0
  have hP := fun u (hb : Below w.heap.size w u) => from_below hb (hP0 u hb)
  clear hP0
  have hL := fun u (hb : Below w.heap.size w u) => from_below hb (pLoad_any S n W most vs s.m s.q s.g p c hc hu (g.base + 4 + 2 * g.ring + 1 * g.d + 0) (by omega) u (hp.fresh hb) (hs.fresh hb))
  show Calls _ _ _ _ fun e w' => e = .returned (.int .i64 (seen s.m (s.q c) (g.base + 4 + 2 * g.ring + 1 * g.d + 0))) ∧ SocTo w S n W most vs s.m s.q s.g w'
  generalize seen s.m (s.q c) (g.base + 4 + 2 * g.ring + 1 * g.d + 0) = x at *
  generalize g.base + 4 + 2 * g.ring + 1 * g.d + 0 = a at *
  have HL := Lib.hid hL; clear hL
  have HP := Lib.hid hP; clear hP
  have HKB := Lib.hid hkb; clear hkb
  have HKT := Lib.hid hkt; clear hkt hk
  have HS := Lib.hid hs
  clear hs h hp hpc hd hA o1 o2 o3 o4 e1
  have hn := ahead_load p
  have hm := meth_load p
  unfold port
  go_enter Tryz.func170, Tryz.ntmps170
  go_wp2_with fail
  go_region_held3 (fun u => u.cell? ⟨b, 11, none⟩ = some (.int .i64 g.d))
    (first | exact HKB.out _ hb | assumption)
    (first | (go_at_call 178; refine (HP.out _ (by first | assumption | exact hb)).mono ?_; rintro e w1 ⟨rfl, hB1⟩; have hq1 := HKB.out w1 hB1) | (go_at_call 183; refine (HL.out _ (by first | assumption | exact hb)).mono ?_; rintro e w3 ⟨rfl, hB3⟩; have hq3 := HKB.out w3 hB3))
  go_wp2_with fail
  all_goals (go_ret; exact ⟨rfl, (SocTo.refl HS.out).fresh (by assumption)⟩)
set_option maxRecDepth 100000 in
theorem tTouch9 (hpc : g.pc = 9) (h : TakAt w b tb vl g) (hd : ∀ k, TakF b tb vl k → ¬ SocF S n vs k) (hA : Ahead w) (hp : PortAt w S p c) (hs : SocAt w S n W most vs s.m s.q s.g) :
    Calls Tryz.prog 170 #[.pointer (some ⟨b, 0, none⟩), port p] w fun e w' => e = .returned (.int .i64 (s.tch most c (.ld (g.base + 4 + 3 * g.ring + 8 * g.d + g.load.length))).2) ∧ TchTo w S n W most vs c s (.ld (g.base + 4 + 3 * g.ring + 8 * g.d + g.load.length)) w' := by
  have cp := h.blk.cell 10
  simp only [Tak.cells, List.getElem?_cons_zero, List.getElem?_cons_succ, hpc] at cp
  have hb := (Below.refl w.heap.size w).drew
  have o1 := ok.room
  have o2 := ok.word
  have o3 := ok.r1
  have o4 := ok.r64
  obtain ⟨al, cl, hvl⟩ := (RowI.read h.load).slice
  rw [nats_len] at hvl
  have hl8 := ok.len
  have hd8 := ok.d8 (by omega) (by omega)
  have hl9 := ok.word9 hpc
  have hm9 := ok.many
  have hk : ∀ u, TakAt u b tb vl g → u.cell? ⟨b, 11, none⟩ = some (.int .i64 g.d) ∧ u.cell? ⟨b, 15, none⟩ = some (vl) := by
    intro u hu
    exact ⟨by have := hu.blk.cell 11; simpa [Tak.cells, hpc] using this, by have := hu.blk.cell 15; simpa [Tak.cells, hpc] using this⟩
  have hkb : ∀ u, Below w.heap.size w u → u.cell? ⟨b, 11, none⟩ = some (.int .i64 g.d) ∧ u.cell? ⟨b, 15, none⟩ = some (vl) := fun u hb => hk u (h.fresh hb)
  have hkt : ∀ u m q g0, SocTo w S n W most vs m q g0 u → u.cell? ⟨b, 11, none⟩ = some (.int .i64 g.d) ∧ u.cell? ⟨b, 15, none⟩ = some (vl) := fun u m q g0 hT => hk u (h.soc hd hT)
  have e1 : ((g.base : Int) + 4 + 3 * (g.ring : Int) + 8 * (g.d : Int) + (g.load.length : Int)) = ((g.base + 4 + 3 * g.ring + 8 * g.d + g.load.length : Nat) : Int) := by omega
  have hP0 := fun u (hb : Below w.heap.size w u) => tPlace_of b tb vl g u (h.fresh hb) 8 g.d g.load.length _ (plotAt_8 g.base g.ring g.d g.load.length (by omega) (by omega) (by omega) (by omega) u (hA.fresh hb))
  rw [e1] at hP0
  have hP := fun u (hb : Below w.heap.size w u) => from_below hb (hP0 u hb)
  clear hP0
  have hL := fun u (hb : Below w.heap.size w u) => from_below hb (pLoad_any S n W most vs s.m s.q s.g p c hc hu (g.base + 4 + 3 * g.ring + 8 * g.d + g.load.length) (by omega) u (hp.fresh hb) (hs.fresh hb))
  show Calls _ _ _ _ fun e w' => e = .returned (.int .i64 (seen s.m (s.q c) (g.base + 4 + 3 * g.ring + 8 * g.d + g.load.length))) ∧ SocTo w S n W most vs s.m s.q s.g w'
  generalize seen s.m (s.q c) (g.base + 4 + 3 * g.ring + 8 * g.d + g.load.length) = x at *
  generalize g.base + 4 + 3 * g.ring + 8 * g.d + g.load.length = a at *
  have HL := Lib.hid hL; clear hL
  have HP := Lib.hid hP; clear hP
  have HKB := Lib.hid hkb; clear hkb
  have HKT := Lib.hid hkt; clear hkt hk
  have HS := Lib.hid hs
  subst hvl
  clear hs h hp hpc hd hA o1 o2 o3 o4 e1
  have hn := ahead_load p
  have hm := meth_load p
  unfold port
  go_enter Tryz.func170, Tryz.ntmps170
  go_wp2_with fail
  go_region_held3 (fun u => u.cell? ⟨b, 11, none⟩ = some (.int .i64 g.d) ∧ u.cell? ⟨b, 15, none⟩ = some (.slice al g.load.length cl))
    (first | exact HKB.out _ hb | assumption)
    (first | (go_at_call 178; refine (HP.out _ (by first | assumption | exact hb)).mono ?_; rintro e w1 ⟨rfl, hB1⟩; have hq1 := HKB.out w1 hB1) | (go_at_call 183; refine (HL.out _ (by first | assumption | exact hb)).mono ?_; rintro e w3 ⟨rfl, hB3⟩; have hq3 := HKB.out w3 hB3))
  go_wp2_with fail
  all_goals (go_ret; exact ⟨rfl, (SocTo.refl HS.out).fresh (by assumption)⟩)
end
end Go.Proofs.YtaaffebnajjfhaaGreatDoor.T
namespace Go.Proofs.YtaaffebnajjfhaaGreatDoor.T
set_option linter.unusedVariables false
set_option linter.unusedSimpArgs false
set_option linter.unusedSectionVars false
open Go.RowKit
section
variable (S : SocL) (n W most : Nat) (vs : Nat → Value) (s : Sc) (p c : Nat) (hc : c < n) (hu : upAt s.g c) (b tb : Nat) (vl : Value) (g : Tak) (ok : g.Ok n W) (w : World)
include hc hu ok
set_option maxRecDepth 100000 in
theorem tTouchF (hpc : g.pc = 4 ∨ g.pc = 11 ∨ g.pc = 13) (h : TakAt w b tb vl g) (hp : PortAt w S p c) (hs : SocAt w S n W most vs s.m s.q s.g) :
    Calls Tryz.prog 170 #[.pointer (some ⟨b, 0, none⟩), port p] w fun e w' => e = .returned (.int .i64 (s.tch most c .fence).2) ∧ TchTo w S n W most vs c s .fence w' := by
  have c10 := h.blk.cell 10
  simp only [Tak.cells, List.getElem?_cons_zero, List.getElem?_cons_succ] at c10
  have hL := pFence_any S n W most vs s.m s.q s.g p c hc hu w hp hs
  show Calls _ _ _ _ fun e w' => e = .returned (.int .i64 0) ∧ SocTo w S n W most vs (applyAll s.m (s.q c)) (upd s.q c []) s.g w'
  have hn := ahead_fence p
  have hm := meth_fence p
  have HL := Lib.hid hL; clear hL h hp hs
  unfold port
  rcases hpc with e | e | e <;>
  · rw [e] at c10
    clear e
    go_enter Tryz.func170, Tryz.ntmps170
    go_wp2_with fail
    refine HL.out.mono ?_
    rintro e w' ⟨rfl, hT⟩
    have HT := Lib.hid hT; clear hT
    go_wp2_with fail
    go_ret
    exact ⟨rfl, HT.out⟩
theorem tTouch_any (h1 : 1 ≤ g.pc) (h : TakAt w b tb vl g) (hd : ∀ k, TakF b tb vl k → ¬ SocF S n vs k) (hA : Ahead w) (hp : PortAt w S p c) (hs : SocAt w S n W most vs s.m s.q s.g) :
    Calls Tryz.prog 170 #[.pointer (some ⟨b, 0, none⟩), port p] w fun e w' => e = .returned (.int .i64 (s.tch most c g.tch).2) ∧ TchTo w S n W most vs c s g.tch w' := by
  have hpc := ok.pc
  have : g.pc = 1 ∨ g.pc = 2 ∨ g.pc = 3 ∨ g.pc = 4 ∨ g.pc = 5 ∨ g.pc = 6 ∨ g.pc = 7 ∨ g.pc = 8 ∨ g.pc = 9 ∨ g.pc = 10 ∨ g.pc = 11 ∨ g.pc = 12 ∨ g.pc = 13 ∨ g.pc = 14 := by omega
  rcases this with e | e | e | e | e | e | e | e | e | e | e | e | e | e
  · rw [show g.tch = .ep g.peer by simp [Tak.tch, e]]; exact tTouch1 S n W most vs s p c hc hu b tb vl g ok w e h hd hA hp hs
  · rw [show g.tch = .st (g.base + 3) 0 by simp [Tak.tch, e]]; exact tTouch2 S n W most vs s p c hc hu b tb vl g ok w e h hd hA hp hs
  · rw [show g.tch = .st (g.base + 1) g.ep.toNat by simp [Tak.tch, e]]; exact tTouch3 S n W most vs s p c hc hu b tb vl g ok w e h hd hA hp hs
  · rw [show g.tch = .fence by simp [Tak.tch, e]]; exact tTouchF S n W most vs s p c hc hu b tb vl g ok w (.inl e) h hp hs
  · rw [show g.tch = .ld g.base by simp [Tak.tch, e]]; exact tTouch5 S n W most vs s p c hc hu b tb vl g ok w e h hd hA hp hs
  · rw [show g.tch = .ld (g.base + 2) by simp [Tak.tch, e]]; exact tTouch6 S n W most vs s p c hc hu b tb vl g ok w e h hd hA hp hs
  · rw [show g.tch = .ld (g.base + 4 + 0 * g.ring + 1 * (g.head % g.ring) + 0) by unfold Tak.tch; rw [e]; rfl]; exact tTouch7 S n W most vs s p c hc hu b tb vl g ok w e h hd hA hp hs
  · rw [show g.tch = .ld (g.base + 4 + 2 * g.ring + 1 * g.d + 0) by unfold Tak.tch; rw [e]; rfl]; exact tTouch8 S n W most vs s p c hc hu b tb vl g ok w e h hd hA hp hs
  · rw [show g.tch = .ld (g.base + 4 + 3 * g.ring + 8 * g.d + g.load.length) by unfold Tak.tch; rw [e]; rfl]; exact tTouch9 S n W most vs s p c hc hu b tb vl g ok w e h hd hA hp hs
  · rw [show g.tch = .st (g.base + 4 + 1 * g.ring + 1 * (g.used % g.ring) + 0) g.d by unfold Tak.tch; rw [e]; rfl]; exact tTouch10 S n W most vs s p c hc hu b tb vl g ok w e h hd hA hp hs
  · rw [show g.tch = .fence by simp [Tak.tch, e]]; exact tTouchF S n W most vs s p c hc hu b tb vl g ok w (.inr (.inl e)) h hp hs
  · rw [show g.tch = .st (g.base + 3) ((g.used + 1) % 65536) by simp [Tak.tch, e]]; exact tTouch12 S n W most vs s p c hc hu b tb vl g ok w e h hd hA hp hs
  · rw [show g.tch = .fence by simp [Tak.tch, e]]; exact tTouchF S n W most vs s p c hc hu b tb vl g ok w (.inr (.inr e)) h hp hs
  · rw [show g.tch = .ep g.peer by simp [Tak.tch, e]]; exact tTouch14 S n W most vs s p c hc hu b tb vl g ok w e h hd hA hp hs
set_option maxRecDepth 100000 in
theorem tStep_any (h1 : g.pc ≠ 0) (hrng : 0 ≤ (s.tch most c g.tch).2) (h : TakAt w b tb vl g) (hd : ∀ k, TakF b tb vl k → ¬ SocAll S n vs k) (hA : Ahead w) (hp : PortAt w S p c) (hs : SocAt w S n W most vs s.m s.q s.g) :
    Calls Tryz.prog 168 #[.pointer (some ⟨b, 0, none⟩), port p] w fun e w' => e = .returned (.tuple #[.bool (g.go (s.tch most c g.tch).2).2.1, .int .i64 (g.go (s.tch most c g.tch).2).2.2]) ∧ ∃ w1, TchTo w S n W most vs c s g.tch w1 ∧ TakTo w1 b tb vl (g.go (s.tch most c g.tch).2).1 w' := by
  have hd' : ∀ k, TakF b tb vl k → ¬ SocF S n vs k := fun k hk e => hd k hk (.inr (.inr (.inr (.inr (.inr e)))))
  have hT := tTouch_any S n W most vs s p c hc hu b tb vl g ok w (by omega) h hd' hA hp hs
  have hg : ∀ w', TchTo w S n W most vs c s g.tch w' → TakAt w' b tb vl g := fun w' hT => h.soc hd' hT
  generalize (s.tch most c g.tch).2 = x at *
  generalize hTT : TchTo w S n W most vs c s g.tch = T at *
  clear hTT
  have hpc := ok.pc
  have hcase : g.pc = 1 ∨ g.pc = 2 ∨ g.pc = 3 ∨ g.pc = 4 ∨ g.pc = 5 ∨ g.pc = 6 ∨ g.pc = 7 ∨ g.pc = 8 ∨ g.pc = 9 ∨ g.pc = 10 ∨ g.pc = 11 ∨ g.pc = 12 ∨ g.pc = 13 ∨ g.pc = 14 := by omega
  rcases hcase with e | e | e | e | e | e | e | e | e | e | e | e | e | e
  · rw [show g.go x = (g.asked x, false, 0) by simp [Tak.go, e]]; exact tStep1 b tb vl g w _ x T h hT hg e
  · rw [show g.go x = ({ g with pc := 2 + 1 }, false, 0) by simp [Tak.go, e]]; exact tStep2 b tb vl g w _ x T h hT hg e
  · rw [show g.go x = ({ g with pc := 3 + 1 }, false, 0) by simp [Tak.go, e]]; exact tStep3 b tb vl g w _ x T h hT hg e
  · rw [show g.go x = (g.first, true, 8) by simp [Tak.go, e]]; exact tStep4 b tb vl g w _ x T h hT hg e ok.tab
  · by_cases hx : x = g.ep
    · rw [show g.go x = ({ g with linked := true, pc := 6 }, false, 0) by simp [Tak.go, e, hx]]; exact tStep5y b tb vl g w _ x T h hT hg e hx
    · rw [show g.go x = ({ g with pc := 0 }, true, 9) by simp [Tak.go, e, hx]]; exact tStep5n b tb vl g w _ x T h hT hg e hx
  · by_cases hx : g.waiting x = 0
    · rw [show g.go x = ({ g with answer := 0, pc := 7 }, false, 0) by simp [Tak.go, e, hx]]; exact tStep6y b tb vl g w _ x T h hT hg e ok.tab ok.r1 ok.r64 hx
    · rw [show g.go x = ({ g with answer := g.waiting x, pc := 14 }, false, 0) by simp [Tak.go, e, hx]]; exact tStep6n b tb vl g w _ x T h hT hg e ok.tab ok.r1 ok.r64 hx
  · by_cases hr : (g.ring : Int) ≤ x
    · rw [show g.go x = ({ g with answer := 10, pc := 14 }, false, 0) by simp [Tak.go, e, hr, Tak.corrupt]]; exact tStep7a b tb vl g w _ x T h hT hg e hr
    · by_cases hi : 0 ≤ idx g.held x
      · rw [show g.go x = ({ g with answer := 10, pc := 14 }, false, 0) by simp [Tak.go, e, hi, Tak.corrupt]]; exact tStep7b b tb vl g w _ x T h hT hg e ok.tab (by omega) hi
      · rw [show g.go x = ({ g with d := x.toNat, pc := 8 }, false, 0) by simp only [Tak.go, e]; simp [hr, hi]]; exact tStep7y b tb vl g w _ x T h hT hg e ok.tab (by omega) (by omega) hrng
  · by_cases hx : 8 < x
    · rw [show g.go x = ({ g with answer := 10, pc := 14 }, false, 0) by simp [Tak.go, e, hx, Tak.corrupt]]; exact tStep8c b tb vl g w _ x T h hT hg e hx
    · by_cases hl : g.load.length < x.toNat
      · rw [show g.go x = ({ g with many := x.toNat, answer := 0, pc := 9 }, false, 0) by simp [Tak.go, e, hx, Tak.words, hl]]; exact tStep8w b tb vl g w _ x T h hT hg e (by omega) hrng hl
      · rw [show g.go x = ({ g with many := x.toNat, answer := 0, pc := 14 }, false, 0) by simp [Tak.go, e, hx, Tak.words, hl]]; exact tStep8d b tb vl g w _ x T h hT hg e (by omega) hrng (by omega)
  · by_cases hl : g.load.length + 1 < g.many
    · rw [show g.go x = ({ g with load := g.load ++ [x.toNat], answer := 0, pc := 9 }, false, 0) by simp [Tak.go, e, Tak.words, hl]]; exact tStep9w b tb vl g w _ x T h hT hg e hrng ok.len hl
    · rw [show g.go x = ({ g with load := g.load ++ [x.toNat], answer := 0, pc := 14 }, false, 0) by simp [Tak.go, e, Tak.words, hl]]; exact tStep9d b tb vl g w _ x T h hT hg e hrng ok.len (by omega)
  · rw [show g.go x = ({ g with pc := 10 + 1 }, false, 0) by simp [Tak.go, e]]; exact tStep10 b tb vl g w _ x T h hT hg e
  · rw [show g.go x = ({ g with pc := 11 + 1 }, false, 0) by simp [Tak.go, e]]; exact tStep11 b tb vl g w _ x T h hT hg e
  · rw [show g.go x = ({ g with pc := 12 + 1 }, false, 0) by simp [Tak.go, e]]; exact tStep12 b tb vl g w _ x T h hT hg e
  · rw [show g.go x = ({ g with answer := 0, pc := 14 }, false, 0) by simp [Tak.go, e]]; exact tStep13 b tb vl g w _ x T h hT hg e
  · rw [show g.go x = ((g.over x).1, true, (g.over x).2) by simp [Tak.go, e]]; exact tStep14 b tb vl g w _ x T h hT hg e ok.tab
theorem tDo_any (h1 : g.pc ≠ 0) (hrng : 0 ≤ (s.tch most c g.tch).2) (h : TakAt w b tb vl g) (hd : ∀ k, TakF b tb vl k → ¬ SocAll S n vs k) (hA : Ahead w) (hp : PortAt w S p c) (hs : SocAt w S n W most vs s.m s.q s.g) :
    Calls Tryz.prog 168 #[.pointer (some ⟨b, 0, none⟩), port p] w fun e w' => e = .returned (.tuple #[.bool (g.go (s.tch most c g.tch).2).2.1, .int .i64 (g.go (s.tch most c g.tch).2).2.2]) ∧
      ∃ vs' vl', SocAt w' S n W most vs' (s.tch most c g.tch).1.m (s.tch most c g.tch).1.q (s.tch most c g.tch).1.g ∧ TakAt w' b tb vl' (g.go (s.tch most c g.tch).2).1 ∧ Moved w w' (SocAll S n vs) (SocAll S n vs') (TakF b tb vl) (TakF b tb vl') := by
  refine (tStep_any S n W most vs s p c hc hu b tb vl g ok w h1 hrng h hd hA hp hs).mono ?_
  rintro e w' ⟨he, w1, hT, vl', hG⟩
  obtain ⟨vs', a1, a2, a3⟩ := hT.all
  have hown : ∀ k, TakF b tb vl' k → TakF b tb vl k ∨ w1.heap.size ≤ k := by
    rintro k (e | e | e)
    · exact .inl (.inl e)
    · exact .inl (.inr (.inl e))
    · exact (hG.own k e).imp (fun e => .inr (.inr e)) id
  have hgl : ∀ k, TakF b tb vl' k → ¬ SocAll S n vs' k := by
    intro k hk e
    have hlt := a1.lt k e
    rcases hown k hk with h2 | h2
    · rcases a3 k e with h3 | h3
      · exact hd k h2 h3
      · have := h.lt k h2; omega
    · omega
  have hg0 : ∀ k, SocAll S n vs' k → ¬ TakF b tb vl k := by
    intro k hk e
    rcases a3 k hk with h3 | h3
    · exact hd k e h3
    · have := h.lt k e; omega
  refine ⟨he, vs', vl', a1.keepAll hG.keep hg0, hG.tak, ⟨(a2.mono (fun k _ e => .inl e)).trans hG.keep (fun k _ e => .inr e), a3, fun k hk => ?_, fun k hk e => hgl k e hk⟩⟩
  rcases hown k hk with h2 | h2
  · exact .inl h2
  · exact .inr (Nat.le_trans a2.size h2)
end
end Go.Proofs.YtaaffebnajjfhaaGreatDoor.T
