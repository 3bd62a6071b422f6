/- Texts of this proof, merged: Taker, TTouch3, Soc4. -/
import Derived.Test.YtaaffebnajjfhaaGreatDoorM09
import Derived.Test.YtaaffebnajjfhaaGreatDoorM11
namespace Go.Proofs.YtaaffebnajjfhaaGreatDoor.T
set_option linter.unusedVariables false
set_option linter.unusedSimpArgs false
set_option linter.unusedSectionVars false
open Go.RowKit
def Tak.cells (g : Tak) (tb : Nat) (vl : Value) : List Value :=
  [.int .i64 g.base, .int .i64 g.ring, .int .i64 g.self, .int .i64 g.peer, .int .i64 g.own, .int .i64 g.known, .bool g.linked, .int .i64 g.head, .int .i64 g.used, .pointer (some ⟨tb, 0, none⟩), .int .i64 g.pc, .int .i64 g.d, .int .i64 g.many, .int .i64 g.answer, .bool g.back, vl, .int .i64 g.got]
structure TakAt (w : World) (b tb : Nat) (vl : Value) (g : Tak) : Prop where
  blk : Blk w b 163 (g.cells tb vl)
  tab : Grants.At w tb g.tab
  load : RowI w vl (nats g.load)
def TakF (b tb : Nat) (vl : Value) (k : Nat) : Prop := k = b ∨ k = tb ∨ vl.ownBlock = some k
section
variable {w w' : World} {b tb : Nat} {vl : Value} {g g' : Tak}
theorem TakAt.tblk (h : TakAt w b tb vl g) : Blk w tb 192 g.tab.cells := h.tab
theorem TakAt.keep {F : Nat → Prop} (h : TakAt w b tb vl g) (hk : Keep F w w') (hF : ∀ k, TakF b tb vl k → ¬ F k) : TakAt w' b tb vl g :=
  ⟨h.blk.keep hk (hF b (.inl rfl)), Blk.keep h.tblk hk (hF tb (.inr (.inl rfl))), Row.keep h.load hk (fun k q => hF k (.inr (.inr q)))⟩
theorem TakAt.fresh (h : TakAt w b tb vl g) (hb : Below w.heap.size w w') : TakAt w' b tb vl g := h.keep (Keep.ofFresh hb (B := 0) (F := fun _ => False)) (fun _ _ q => q)
theorem TakAt.lt (h : TakAt w b tb vl g) (k : Nat) (hk : TakF b tb vl k) : k < w.heap.size := by
  rcases hk with rfl | rfl | e
  · exact h.blk.lt
  · exact h.tblk.lt
  · exact Row.lt h.load k e
theorem TakAt.ne (h : TakAt w b tb vl g) : b ≠ tb := Blk.ne h.blk h.tblk (by decide)
theorem TakAt.put (h : TakAt w b tb vl g) (j : Nat) (u : Value) (hc : (g.cells tb vl).set j u = g'.cells tb vl) (h1 : g'.tab = g.tab) (h3 : g'.load = g.load) : TakAt (w.setCell ⟨b, j, none⟩ u) b tb vl g' := by
  refine ⟨?_, ?_, ?_⟩
  · rw [← hc]; exact h.blk.set j u
  · rw [h1]; exact Blk.far h.tblk (p := ⟨b, j, none⟩) (fun e => h.ne e.symm) u
  · rw [h3]; exact Row.far h.load h.blk (by decide) j u
theorem TakAt.soc {S : SocL} {n W most : Nat} {vs : Nat → Value} {m : Nat → Nat} {q : Nat → List (Nat × Nat)} {gg : Gates.Gt} (h : TakAt w b tb vl g) (hd : ∀ k, TakF b tb vl k → ¬ SocF S n vs k) (hT : SocTo w S n W most vs m q gg w') : TakAt w' b tb vl g := by
  obtain ⟨vs', h1, h2, h3⟩ := hT
  exact h.keep h2 hd
theorem TakAt.noLoad (h : TakAt w b tb vl g) (hc : ((g.cells tb vl).set 15 (.slice none 0 0)) = g'.cells tb (.slice none 0 0)) (h1 : g'.tab = g.tab) (h3 : g'.load = []) : TakAt (w.setCell ⟨b, 15, none⟩ (.slice none 0 0)) b tb (.slice none 0 0) g' := by
  refine ⟨?_, ?_, ?_⟩
  · rw [← hc]; exact h.blk.set 15 _
  · rw [h1]; exact Blk.far h.tblk (p := ⟨b, 15, none⟩) (fun e => h.ne e.symm) _
  · rw [h3]; exact Row.nil _ _ _
end
structure TS (w0 : World) (b tb : Nat) (vl0 : Value) (w : World) (vl : Value) (g : Tak) : Prop where
  tak : TakAt w b tb vl g
  keep : Keep (TakF b tb vl0) w0 w
  own : ∀ q, vl.ownBlock = some q → vl0.ownBlock = some q ∨ w0.heap.size ≤ q
def TakTo (w0 : World) (b tb : Nat) (vl0 : Value) (g : Tak) (w : World) : Prop := ∃ vl, TS w0 b tb vl0 w vl g
section
variable {w0 w w' : World} {b tb : Nat} {vl0 vl : Value} {g g' : Tak}
theorem TS.start (h : TakAt w b tb vl g) : TS w b tb vl w vl g := ⟨h, Keep.refl _ _, fun _ h => .inl h⟩
theorem TS.to (h : TS w0 b tb vl0 w vl g) : TakTo w0 b tb vl0 g w := ⟨vl, h⟩
theorem TS.put (h : TS w0 b tb vl0 w vl g) (j : Nat) (u : Value) (hc : (g.cells tb vl).set j u = g'.cells tb vl) (h1 : g'.tab = g.tab) (h3 : g'.load = g.load) : TS w0 b tb vl0 (w.setCell ⟨b, j, none⟩ u) vl g' :=
  ⟨h.tak.put j u hc h1 h3, h.keep.setCell (p := ⟨b, j, none⟩) (fun _ => .inl rfl) u, h.own⟩
theorem TS.noLoad (h : TS w0 b tb vl0 w vl g) (hc : ((g.cells tb vl).set 15 (.slice none 0 0)) = g'.cells tb (.slice none 0 0)) (h1 : g'.tab = g.tab) (h3 : g'.load = []) : TS w0 b tb vl0 (w.setCell ⟨b, 15, none⟩ (.slice none 0 0)) (.slice none 0 0) g' :=
  ⟨h.tak.noLoad hc h1 h3, h.keep.setCell (p := ⟨b, 15, none⟩) (fun _ => .inl rfl) _, fun q hq => by simp [Value.ownBlock] at hq⟩
theorem TS.drew (h : TS w0 b tb vl0 w vl g) : TS w0 b tb vl0 w.drew vl g := ⟨h.tak.fresh (Below.refl _ w).drew, h.keep.drew, h.own⟩
theorem TS.fresh (h : TS w0 b tb vl0 w vl g) (hb : Below w.heap.size w w') : TS w0 b tb vl0 w' vl g := ⟨h.tak.fresh hb, h.keep.trans' (Keep.ofFresh hb (B := 0)), h.own⟩
theorem TS.keepOne (h : TS w0 b tb vl0 w vl g) (hk : Keep (fun k => k = b) w w') (hg : TakAt w' b tb vl g') : TS w0 b tb vl0 w' vl g' :=
  ⟨hg, h.keep.trans hk (fun k _ e => by subst e; exact .inl rfl), h.own⟩
theorem TS.table (h : TS w0 b tb vl0 w vl g) {k' : Grants.Tb} (ht : Grants.At w' tb k') (hg : w.grownBy w' (some tb)) : TS w0 b tb vl0 w' vl { g with tab := k' } := by
  have hK := Keep.grown hg
  refine ⟨⟨h.tak.blk.keep hK (fun e => h.tak.ne (by injection e with e; exact e.symm)), ht, Row.keep h.tak.load hK (fun q hq e => Row.ne h.tak.load h.tak.tblk (by decide) (by rw [hq]; injection e with e; rw [e]))⟩, h.keep.trans hK (fun q _ e => by injection e with e; exact .inr (.inl e.symm)), h.own⟩
theorem TS.setLoad (h : TS w0 b tb vl0 w vl g) {vl' : Value} {ls : List Nat} (hK : Keep (fun q => vl.ownBlock = some q) w w') (hR : RowI w' vl' (nats ls)) (hown : ∀ q, vl'.ownBlock = some q → vl.ownBlock = some q ∨ w.heap.size ≤ q) :
    TS w0 b tb vl0 (w'.setCell ⟨b, 15, none⟩ vl') vl' { g with load := ls } := by
  have hb := h.tak.blk.keep hK (fun e => Row.ne h.tak.load h.tak.blk (by decide) e)
  have ht := Blk.keep h.tak.tblk hK (fun e => Row.ne h.tak.load h.tak.tblk (by decide) e)
  refine ⟨⟨hb.set 15 vl', Blk.far ht (p := ⟨b, 15, none⟩) (fun e => h.tak.ne e.symm) _, Row.far hR hb (by decide) 15 _⟩, ?_, ?_⟩
  · refine (h.keep.trans hK (fun q hq e => ?_)).setCell (p := ⟨b, 15, none⟩) (fun _ => .inl rfl) vl'
    rcases h.own q e with h1 | h1
    · exact .inr (.inr h1)
    · omega
  · intro q hq
    rcases hown q hq with h1 | h1
    · exact h.own q h1
    · exact .inr (Nat.le_trans h.keep.size h1)
end
section
variable (b tb : Nat) (vl : Value) (g : Tak) (w : World) (h : TakAt w b tb vl g)
include h
set_option maxRecDepth 100000 in
theorem tEpoch_any :
    Calls Tryz.prog 172 #[.pointer (some ⟨b, 0, none⟩)] w fun e w' => e = .returned (.int .i64 g.ep) ∧ Below w.heap.size w w' := by
  have c4 := h.blk.cell 4
  have c5 := h.blk.cell 5
  simp only [Tak.cells, List.getElem?_cons_zero, List.getElem?_cons_succ] at c4 c5
  have HC := Lib.hid (add_any g.own g.known)
  show Calls _ _ _ _ fun e w' => e = .returned (.int .i64 (((g.own : Int) + g.known) % 65536)) ∧ _
  clear h
  go_enter Tryz.func172, Tryz.ntmps172
  go_wp2_with fail
  go_region_held3 (fun u => u.cell? ⟨b, 4, none⟩ = some (.int .i64 g.own) ∧ u.cell? ⟨b, 5, none⟩ = some (.int .i64 g.known))
    (first | exact ⟨c4, c5⟩)
    (first | (go_at_call 103; refine (HC.out _).mono ?_; rintro e w' ⟨rfl, rfl⟩))
  go_wp2_with fail
  go_ret
  exact ⟨rfl, (Below.refl _ w).drew⟩
set_option maxRecDepth 100000 in
theorem tPlace_of (f s i a : Int)
    (E : Calls Tryz.prog 156 #[.agg #[.int .i64 g.base, .int .i64 g.ring], .int .i64 f, .int .i64 s, .int .i64 i] w fun e w' => e = .returned (.tuple #[.int .i64 a, .bool true]) ∧ Below w.heap.size w w') :
    Calls Tryz.prog 178 #[.pointer (some ⟨b, 0, none⟩), .int .i64 f, .int .i64 s, .int .i64 i] w fun e w' => e = .returned (.int .i64 a) ∧ Below w.heap.size w w' := by
  have c0 := h.blk.cell 0
  have c1 := h.blk.cell 1
  simp only [Tak.cells, List.getElem?_cons_zero, List.getElem?_cons_succ] at c0 c1
  have HE := Lib.hid E; clear h E
  go_enter Tryz.func178, Tryz.ntmps178
  go_wp2_with fail
  refine HE.out.mono ?_
  rintro e w1 ⟨rfl, hB⟩
  have HB := Lib.hid hB; clear hB
  go_wp2_with fail
  go_ret
  exact ⟨rfl, HB.out⟩
set_option maxRecDepth 100000 in
theorem tAsked_any (x : Int) :
    Calls Tryz.prog 171 #[.pointer (some ⟨b, 0, none⟩), .int .i64 x] w fun e w' => e = .returned (.int .i64 (g.asked x).pc) ∧ TakAt w' b tb vl { g with known := (g.asked x).known } ∧ Keep (fun k => k = b) w w' := by
  have c5 := h.blk.cell 5
  have c6 := h.blk.cell 6
  have c14 := h.blk.cell 14
  have f5 := h.blk.free 5
  simp only [Tak.cells, List.getElem?_cons_zero, List.getElem?_cons_succ] at c5 c6 c14
  by_cases hx : x = g.known
  · have e0 : (x == g.known) = true := by simpa using hx
    by_cases hl : g.linked = true
    · by_cases hb : g.back = true
      · have hr : g.asked x = { g with pc := 10 } := by unfold Tak.asked; rw [if_neg (by simpa using hx), if_pos hl, if_pos hb]
        rw [hr]
        have H := Lib.hid h; clear h hr hx
        rw [hl] at c6; clear hl
        rw [hb] at c14; clear hb
        go_enter Tryz.func171, Tryz.ntmps171
        go_wp2_with fail
        go_ret
        exact ⟨rfl, H.out, Keep.refl _ _⟩
      · have hb : g.back = false := by simpa using hb
        have hr : g.asked x = { g with pc := 6 } := by unfold Tak.asked; rw [if_neg (by simpa using hx), if_pos hl, if_neg (by rw [hb]; simp)]
        rw [hr]
        have H := Lib.hid h; clear h hr hx
        rw [hl] at c6; clear hl
        rw [hb] at c14; clear hb
        go_enter Tryz.func171, Tryz.ntmps171
        go_wp2_with fail
        go_ret
        exact ⟨rfl, H.out, Keep.refl _ _⟩
    · have hl : g.linked = false := by simpa using hl
      have hr : g.asked x = { g with pc := 5 } := by unfold Tak.asked; rw [if_neg (by simpa using hx), if_neg (by rw [hl]; simp)]
      rw [hr]
      have H := Lib.hid h; clear h hr hx
      rw [hl] at c6; clear hl
      go_enter Tryz.func171, Tryz.ntmps171
      go_wp2_with fail
      go_ret
      exact ⟨rfl, H.out, Keep.refl _ _⟩
  · have e0 : (x == g.known) = false := by simpa using hx
    have hr : g.asked x = { g with known := x, pc := 2 } := by unfold Tak.asked; rw [if_pos hx]
    rw [hr]
    have hp := h.put (g' := { g with known := x }) 5 (.int .i64 x) rfl rfl rfl
    have HP := Lib.hid hp; clear h hr hx hp
    go_enter Tryz.func171, Tryz.ntmps171
    go_wp2_with fail
    go_ret
    exact ⟨rfl, HP.out, Keep.one⟩
end
end Go.Proofs.YtaaffebnajjfhaaGreatDoor.T
namespace Go.Proofs.YtaaffebnajjfhaaGreatDoor.T
set_option linter.unusedVariables false
set_option linter.unusedSimpArgs false
open Go.RowKit
section
variable (S : SocL) (n W most : Nat) (vs : Nat → Value) (s : Sc) (p c : Nat) (hc : c < n) (hu : upAt s.g c) (b tb : Nat) (vl : Value) (g : Tak) (ok : g.Ok n W) (w : World)
include hc hu ok
set_option maxRecDepth 100000 in
theorem tTouch2 (hpc : g.pc = 2) (h : TakAt w b tb vl g) (hd : ∀ k, TakF b tb vl k → ¬ SocF S n vs k) (hA : Ahead w) (hp : PortAt w S p c) (hs : SocAt w S n W most vs s.m s.q s.g) :
    Calls Tryz.prog 170 #[.pointer (some ⟨b, 0, none⟩), port p] w fun e w' => e = .returned (.int .i64 (s.tch most c (.st (g.base + 3) (0))).2) ∧ TchTo w S n W most vs c s (.st (g.base + 3) (0)) w' := by
  have cp := h.blk.cell 10
  simp only [Tak.cells, List.getElem?_cons_zero, List.getElem?_cons_succ, hpc] at cp
  have hb := (Below.refl w.heap.size w).drew
  have o1 := ok.room
  have o2 := ok.word
  have o3 := ok.r1
  have o4 := ok.r64
  have hk : ∀ u, TakAt u b tb vl g → u.cell? ⟨b, 10, none⟩ = some (.int .i64 2) := by
    intro u hu
    exact (by have := hu.blk.cell 10; simpa [Tak.cells, hpc] using this)
  have hkb : ∀ u, Below w.heap.size w u → u.cell? ⟨b, 10, none⟩ = some (.int .i64 2) := fun u hb => hk u (h.fresh hb)
  have hkt : ∀ u m q g0, SocTo w S n W most vs m q g0 u → u.cell? ⟨b, 10, none⟩ = some (.int .i64 2) := fun u m q g0 hT => hk u (h.soc hd hT)
  have e1 : ((g.base : Int) + 4 - 1) = ((g.base + 3 : Nat) : Int) := by omega
  have hP0 := fun u (hb : Below w.heap.size w u) => tPlace_of b tb vl g u (h.fresh hb) 4 0 0 _ (plotAt_one g.base g.ring 4 (by omega) (by omega) (by omega) u)
  rw [e1] at hP0
  have hP := fun u (hb : Below w.heap.size w u) => from_below hb (hP0 u hb)
  clear hP0
  have hL := fun u (hb : Below w.heap.size w u) => from_soc hb (pStore_any S n W most vs s.m s.q s.g p c hc hu (g.base + 3) (0) (by omega) (by omega) u (hp.fresh hb) (hs.fresh hb))
  show Calls _ _ _ _ fun e w' => e = .returned (.int .i64 0) ∧ SocTo w S n W most vs (stM most s.m (s.q c)) (upd s.q c (stQ most (s.q c) (g.base + 3, (0)))) s.g w'
  generalize hag : g.base + 3 = a at *
  have HL := Lib.hid hL; clear hL
  have HP := Lib.hid hP; clear hP
  have HKB := Lib.hid hkb; clear hkb
  have HKT := Lib.hid hkt; clear hkt hk
  have HS := Lib.hid hs
  clear hs h hp hpc hd hA o1 o2 o3 o4 e1 hag
  have hn := ahead_store p
  have hm := meth_store p
  unfold port
  go_enter Tryz.func170, Tryz.ntmps170
  go_wp2_with fail
  go_region_held3 (fun u => u.cell? ⟨b, 10, none⟩ = some (.int .i64 2))
    (first | exact HKB.out _ hb | assumption)
    (first | (go_at_call 178; refine (HP.out _ (by first | assumption | exact hb)).mono ?_; rintro e w1 ⟨rfl, hB1⟩; have hq1 := HKB.out w1 hB1) | (go_at_call 184; refine (HL.out _ (by first | assumption | exact hb)).mono ?_; rintro e w3 ⟨rfl, hT3⟩; have hq3 := HKT.out w3 _ _ _ hT3))
  go_wp2_with fail
  all_goals (go_ret; exact ⟨rfl, by assumption⟩)
set_option maxRecDepth 100000 in
theorem tTouch3 (hpc : g.pc = 3) (h : TakAt w b tb vl g) (hd : ∀ k, TakF b tb vl k → ¬ SocF S n vs k) (hA : Ahead w) (hp : PortAt w S p c) (hs : SocAt w S n W most vs s.m s.q s.g) :
    Calls Tryz.prog 170 #[.pointer (some ⟨b, 0, none⟩), port p] w fun e w' => e = .returned (.int .i64 (s.tch most c (.st (g.base + 1) (g.ep.toNat))).2) ∧ TchTo w S n W most vs c s (.st (g.base + 1) (g.ep.toNat)) w' := by
  have cp := h.blk.cell 10
  simp only [Tak.cells, List.getElem?_cons_zero, List.getElem?_cons_succ, hpc] at cp
  have hb := (Below.refl w.heap.size w).drew
  have o1 := ok.room
  have o2 := ok.word
  have o3 := ok.r1
  have o4 := ok.r64
  have hk : ∀ u, TakAt u b tb vl g → u.cell? ⟨b, 10, none⟩ = some (.int .i64 3) := by
    intro u hu
    exact (by have := hu.blk.cell 10; simpa [Tak.cells, hpc] using this)
  have hkb : ∀ u, Below w.heap.size w u → u.cell? ⟨b, 10, none⟩ = some (.int .i64 3) := fun u hb => hk u (h.fresh hb)
  have hkt : ∀ u m q g0, SocTo w S n W most vs m q g0 u → u.cell? ⟨b, 10, none⟩ = some (.int .i64 3) := fun u m q g0 hT => hk u (h.soc hd hT)
  have e1 : ((g.base : Int) + 2 - 1) = ((g.base + 1 : Nat) : Int) := by omega
  have hP0 := fun u (hb : Below w.heap.size w u) => tPlace_of b tb vl g u (h.fresh hb) 2 0 0 _ (plotAt_one g.base g.ring 2 (by omega) (by omega) (by omega) u)
  rw [e1] at hP0
  have hP := fun u (hb : Below w.heap.size w u) => from_below hb (hP0 u hb)
  clear hP0
  have hE := fun u (hb : Below w.heap.size w u) => from_below hb (tEpoch_any b tb vl g u (h.fresh hb))
  have he0 : (0 : Int) ≤ g.ep ∧ g.ep < 65536 := by unfold Tak.ep; omega
  have hep : g.ep = ((g.ep.toNat : Nat) : Int) := by omega
  rw [hep] at hE
  generalize hxg : g.ep.toNat = x at *
  have hL := fun u (hb : Below w.heap.size w u) => from_soc hb (pStore_any S n W most vs s.m s.q s.g p c hc hu (g.base + 1) (x) (by omega) (by omega) u (hp.fresh hb) (hs.fresh hb))
  show Calls _ _ _ _ fun e w' => e = .returned (.int .i64 0) ∧ SocTo w S n W most vs (stM most s.m (s.q c)) (upd s.q c (stQ most (s.q c) (g.base + 1, x))) s.g w'
  generalize hag : g.base + 1 = a at *
  have HL := Lib.hid hL; clear hL
  have HP := Lib.hid hP; clear hP
  have HE := Lib.hid hE; clear hE
  have HKB := Lib.hid hkb; clear hkb
  have HKT := Lib.hid hkt; clear hkt hk
  have HS := Lib.hid hs
  clear hs h hp hpc hd hA o1 o2 o3 o4 e1 he0 hep hxg hag
  have hn := ahead_store p
  have hm := meth_store p
  unfold port
  go_enter Tryz.func170, Tryz.ntmps170
  go_wp2_with fail
  go_region_held3 (fun u => u.cell? ⟨b, 10, none⟩ = some (.int .i64 3))
    (first | exact HKB.out _ hb | assumption)
    (first | (go_at_call 178; refine (HP.out _ (by first | assumption | exact hb)).mono ?_; rintro e w1 ⟨rfl, hB1⟩; have hq1 := HKB.out w1 hB1) | (go_at_call 172; refine (HE.out _ (by first | assumption | exact hb)).mono ?_; rintro e w2 ⟨rfl, hB2⟩; have hq2 := HKB.out w2 hB2) | (go_at_call 184; refine (HL.out _ (by first | assumption | exact hb)).mono ?_; rintro e w3 ⟨rfl, hT3⟩; have hq3 := HKT.out w3 _ _ _ hT3))
  go_wp2_with fail
  all_goals (go_ret; exact ⟨rfl, by assumption⟩)
set_option maxRecDepth 100000 in
theorem tTouch10 (hpc : g.pc = 10) (h : TakAt w b tb vl g) (hd : ∀ k, TakF b tb vl k → ¬ SocF S n vs k) (hA : Ahead w) (hp : PortAt w S p c) (hs : SocAt w S n W most vs s.m s.q s.g) :
    Calls Tryz.prog 170 #[.pointer (some ⟨b, 0, none⟩), port p] w fun e w' => e = .returned (.int .i64 (s.tch most c (.st (g.base + 4 + 1 * g.ring + 1 * (g.used % g.ring) + 0) (g.d))).2) ∧ TchTo w S n W most vs c s (.st (g.base + 4 + 1 * g.ring + 1 * (g.used % g.ring) + 0) (g.d)) w' := by
  have cp := h.blk.cell 10
  simp only [Tak.cells, List.getElem?_cons_zero, List.getElem?_cons_succ, hpc] at cp
  have hb := (Below.refl w.heap.size w).drew
  have o1 := ok.room
  have o2 := ok.word
  have o3 := ok.r1
  have o4 := ok.r64
  have hd8 := ok.dback (ok.pc10 hpc)
  have hk : ∀ u, TakAt u b tb vl g → u.cell? ⟨b, 8, none⟩ = some (.int .i64 g.used) ∧ u.cell? ⟨b, 1, none⟩ = some (.int .i64 g.ring) ∧ u.cell? ⟨b, 11, none⟩ = some (.int .i64 g.d) := by
    intro u hu
    exact ⟨by have := hu.blk.cell 8; simpa [Tak.cells, hpc] using this, by have := hu.blk.cell 1; simpa [Tak.cells, hpc] using this, by have := hu.blk.cell 11; simpa [Tak.cells, hpc] using this⟩
  have hkb : ∀ u, Below w.heap.size w u → u.cell? ⟨b, 8, none⟩ = some (.int .i64 g.used) ∧ u.cell? ⟨b, 1, none⟩ = some (.int .i64 g.ring) ∧ u.cell? ⟨b, 11, none⟩ = some (.int .i64 g.d) := fun u hb => hk u (h.fresh hb)
  have hkt : ∀ u m q g0, SocTo w S n W most vs m q g0 u → u.cell? ⟨b, 8, none⟩ = some (.int .i64 g.used) ∧ u.cell? ⟨b, 1, none⟩ = some (.int .i64 g.ring) ∧ u.cell? ⟨b, 11, none⟩ = some (.int .i64 g.d) := fun u m q g0 hT => hk u (h.soc hd hT)
  have hr0 : ¬ g.ring = 0 := by omega
  have hr1 : ¬ (g.ring : Int) = 0 := by omega
  have hrm : g.used % g.ring < g.ring := Nat.mod_lt _ (by omega)
  have hrt : Int.tmod (g.used : Int) (g.ring : Int) = ((g.used % g.ring : Nat) : Int) := rfl
  have e1 : ((g.base : Int) + 4 + 1 * (g.ring : Int) + 1 * (((g.used % g.ring) : Nat) : Int) + 0) = ((g.base + 4 + 1 * g.ring + 1 * (g.used % g.ring) + 0 : Nat) : Int) := by omega
  have hP0 := fun u (hb : Below w.heap.size w u) => tPlace_of b tb vl g u (h.fresh hb) 6 ((g.used % g.ring : Nat) : Int) 0 _ (plotAt_6 g.base g.ring ((g.used % g.ring)) (by omega) (by omega) (by omega) u (hA.fresh hb))
  rw [e1] at hP0
  have hP := fun u (hb : Below w.heap.size w u) => from_below hb (hP0 u hb)
  clear hP0
  have hL := fun u (hb : Below w.heap.size w u) => from_soc hb (pStore_any S n W most vs s.m s.q s.g p c hc hu (g.base + 4 + 1 * g.ring + 1 * (g.used % g.ring) + 0) (g.d) (by omega) (by omega) u (hp.fresh hb) (hs.fresh hb))
  show Calls _ _ _ _ fun e w' => e = .returned (.int .i64 0) ∧ SocTo w S n W most vs (stM most s.m (s.q c)) (upd s.q c (stQ most (s.q c) (g.base + 4 + 1 * g.ring + 1 * (g.used % g.ring) + 0, (g.d)))) s.g w'
  generalize hag : g.base + 4 + 1 * g.ring + 1 * (g.used % g.ring) + 0 = a at *
  have HL := Lib.hid hL; clear hL
  have HP := Lib.hid hP; clear hP
  have HKB := Lib.hid hkb; clear hkb
  have HKT := Lib.hid hkt; clear hkt hk
  have HS := Lib.hid hs
  clear hs h hp hpc hd hA o1 o2 o3 o4 e1 hag
  have hn := ahead_store p
  have hm := meth_store p
  unfold port
  go_enter Tryz.func170, Tryz.ntmps170
  go_wp2_with fail
  go_region_held3 (fun u => u.cell? ⟨b, 8, none⟩ = some (.int .i64 g.used) ∧ u.cell? ⟨b, 1, none⟩ = some (.int .i64 g.ring) ∧ u.cell? ⟨b, 11, none⟩ = some (.int .i64 g.d))
    (first | exact HKB.out _ hb | assumption)
    (first | (go_at_call 178; refine (HP.out _ (by first | assumption | exact hb)).mono ?_; rintro e w1 ⟨rfl, hB1⟩; have hq1 := HKB.out w1 hB1) | (go_at_call 184; refine (HL.out _ (by first | assumption | exact hb)).mono ?_; rintro e w3 ⟨rfl, hT3⟩; have hq3 := HKT.out w3 _ _ _ hT3))
  go_wp2_with fail
  all_goals (go_ret; exact ⟨rfl, by assumption⟩)
set_option maxRecDepth 100000 in
theorem tTouch12 (hpc : g.pc = 12) (h : TakAt w b tb vl g) (hd : ∀ k, TakF b tb vl k → ¬ SocF S n vs k) (hA : Ahead w) (hp : PortAt w S p c) (hs : SocAt w S n W most vs s.m s.q s.g) :
    Calls Tryz.prog 170 #[.pointer (some ⟨b, 0, none⟩), port p] w fun e w' => e = .returned (.int .i64 (s.tch most c (.st (g.base + 3) ((g.used + 1) % 65536))).2) ∧ TchTo w S n W most vs c s (.st (g.base + 3) ((g.used + 1) % 65536)) w' := by
  have cp := h.blk.cell 10
  simp only [Tak.cells, List.getElem?_cons_zero, List.getElem?_cons_succ, hpc] at cp
  have hb := (Below.refl w.heap.size w).drew
  have o1 := ok.room
  have o2 := ok.word
  have o3 := ok.r1
  have o4 := ok.r64
  have hk : ∀ u, TakAt u b tb vl g → u.cell? ⟨b, 8, none⟩ = some (.int .i64 g.used) := by
    intro u hu
    exact (by have := hu.blk.cell 8; simpa [Tak.cells, hpc] using this)
  have hkb : ∀ u, Below w.heap.size w u → u.cell? ⟨b, 8, none⟩ = some (.int .i64 g.used) := fun u hb => hk u (h.fresh hb)
  have hkt : ∀ u m q g0, SocTo w S n W most vs m q g0 u → u.cell? ⟨b, 8, none⟩ = some (.int .i64 g.used) := fun u m q g0 hT => hk u (h.soc hd hT)
  have e1 : ((g.base : Int) + 4 - 1) = ((g.base + 3 : Nat) : Int) := by omega
  have hP0 := fun u (hb : Below w.heap.size w u) => tPlace_of b tb vl g u (h.fresh hb) 4 0 0 _ (plotAt_one g.base g.ring 4 (by omega) (by omega) (by omega) u)
  rw [e1] at hP0
  have hP := fun u (hb : Below w.heap.size w u) => from_below hb (hP0 u hb)
  clear hP0
  have hE := fun u => add_any g.used 1 u
  have hep : (((g.used : Int) + 1) % 65536) = (((g.used + 1) % 65536 : Nat) : Int) := by omega
  rw [hep] at hE
  have hx0 : (g.used + 1) % 65536 < 65536 := by omega
  generalize (g.used + 1) % 65536 = x at *
  have hL := fun u (hb : Below w.heap.size w u) => from_soc hb (pStore_any S n W most vs s.m s.q s.g p c hc hu (g.base + 3) (x) (by omega) (by omega) u (hp.fresh hb) (hs.fresh hb))
  show Calls _ _ _ _ fun e w' => e = .returned (.int .i64 0) ∧ SocTo w S n W most vs (stM most s.m (s.q c)) (upd s.q c (stQ most (s.q c) (g.base + 3, x))) s.g w'
  generalize hag : g.base + 3 = a at *
  have HL := Lib.hid hL; clear hL
  have HP := Lib.hid hP; clear hP
  have HE := Lib.hid hE; clear hE
  have HKB := Lib.hid hkb; clear hkb
  have HKT := Lib.hid hkt; clear hkt hk
  have HS := Lib.hid hs
  clear hs h hp hpc hd hA o1 o2 o3 o4 e1 hep hx0 hag
  have hn := ahead_store p
  have hm := meth_store p
  unfold port
  go_enter Tryz.func170, Tryz.ntmps170
  go_wp2_with fail
  go_region_held3 (fun u => u.cell? ⟨b, 8, none⟩ = some (.int .i64 g.used))
    (first | exact HKB.out _ hb | assumption)
    (first | (go_at_call 178; refine (HP.out _ (by first | assumption | exact hb)).mono ?_; rintro e w1 ⟨rfl, hB1⟩; have hq1 := HKB.out w1 hB1) | (go_at_call 103; refine (HE.out _).mono ?_; rintro e w2 ⟨rfl, rfl⟩) | (go_at_call 184; refine (HL.out _ (by first | assumption | exact hb)).mono ?_; rintro e w3 ⟨rfl, hT3⟩; have hq3 := HKT.out w3 _ _ _ hT3))
  go_wp2_with fail
  all_goals (go_ret; exact ⟨rfl, by assumption⟩)
end
end Go.Proofs.YtaaffebnajjfhaaGreatDoor.T
namespace Go.Proofs.YtaaffebnajjfhaaGreatDoor.T
set_option linter.unusedVariables false
set_option linter.unusedSimpArgs false
open Go.RowKit
set_option maxRecDepth 100000 in
theorem ask_out (L : BusL) (n W most : Nat) (vs : Nat → Value) (m : Nat → Nat) (q : Nat → List (Nat × Nat)) (c : Int) (hc : c < 0 ∨ (n : Int) ≤ c) (f : Value) (w : World) (h : BusAt w L n W most vs m q) :
    Calls Tryz.prog 87 #[.pointer (some ⟨L.bus, 0, none⟩), .int .i64 c, f] w fun e w' => e = .returned (.int .i64 3) ∧ w = w' := by
  have h1 := h.bus.cell 1
  simp at h1
  have HB := Lib.hid h; clear h
  by_cases h0 : c < 0
  · clear hc
    go_enter Tryz.func87, Tryz.ntmps87
    go_wp2_with fail
    go_ret
    exact ⟨rfl, rfl⟩
  · have hcn : (n : Int) ≤ c := by omega
    clear hc
    go_enter Tryz.func87, Tryz.ntmps87
    go_wp2_with fail
    go_ret
    exact ⟨rfl, rfl⟩
theorem busDrain_out (L : BusL) (n W most : Nat) (vs : Nat → Value) (m : Nat → Nat) (q : Nat → List (Nat × Nat)) (c : Int) (hc : c < 0 ∨ (n : Int) ≤ c) (w : World) (h : BusAt w L n W most vs m q) :
    Calls Tryz.prog 51 #[.pointer (some ⟨L.bus, 0, none⟩), .int .i64 c] w fun e w' => e = .returned (.tuple #[.bool false, .int .i64 3]) ∧ Below w.heap.size w w' := by
  obtain ⟨hb, h1, h2⟩ := two_boxes w 92 4 (.pointer (some ⟨L.bus, 0, none⟩)) (.bool false)
  have H := Lib.hid (h.fresh hb); clear h
  have HB := Lib.hid hb
  have HC := Lib.hid hc; clear hc
  have c2 := h2.cell 0
  have f2 := h2.free 0
  simp only [List.getElem?_cons_zero] at c2
  have h7 := Lib.hid (h2.set 0 (.bool false))
  have HB2 := Lib.hid (hb.setCell (p := ⟨w.heap.size + 1, 0, none⟩) (by simp) (.bool false))
  clear hb h1 h2
  go_enter Tryz.func51, Tryz.ntmps51
  go_wp2_with fail
  refine (ask_out L n W most vs m q c HC.out _ _ H.out).mono ?_
  rintro e w1 ⟨rfl, rfl⟩
  go_wp2_with fail
  refine bodyPost_ret (res_ct rfl rfl Tryz.underlying4 _ _ (w.heap.size + 1) (.bool false) rfl c2) rfl ?_
  exact ⟨rfl, HB.out⟩
def inSoc (n : Nat) (c : Int) : Prop := 0 ≤ c ∧ c < n
theorem socDrain_in (S : SocL) (n W most : Nat) (vs : Nat → Value) (m : Nat → Nat) (q : Nat → List (Nat × Nat)) (g : Gates.Gt) (c : Nat) (hc : c < n) (w : World) (h : SocAt w S n W most vs m q g) :
    Calls Tryz.prog 23 #[.pointer (some ⟨S.soc, 0, none⟩), .int .i64 c] w fun e w' => e = .returned (.tuple #[.bool (!(q c).isEmpty), .int .i64 0]) ∧ SocTo w S n W most vs (drM m (q c)) (upd q c (q c).tail) g w' := by
  have c3 := h.blk.cell 3
  simp only [List.getElem?_cons_zero, List.getElem?_cons_succ] at c3
  have H := Lib.hid h; clear h
  generalize hx : (!(q c).isEmpty) = x
  have HX := Lib.hid hx; clear hx
  go_enter Tryz.func23, Tryz.ntmps23
  go_wp2_with fail
  refine (busDrain_any S.B n W most vs m q c hc _ H.out.bus).mono ?_
  rintro e w1 ⟨rfl, hT⟩
  rw [HX.out]
  have HT := Lib.hid (H.out.busTo hc hT); clear hT
  go_wp2_with fail
  go_ret2
  exact ⟨rfl, HT.out⟩
theorem socDrain_out (S : SocL) (n W most : Nat) (vs : Nat → Value) (m : Nat → Nat) (q : Nat → List (Nat × Nat)) (g : Gates.Gt) (c : Int) (hc : c < 0 ∨ (n : Int) ≤ c) (w : World) (h : SocAt w S n W most vs m q g) :
    Calls Tryz.prog 23 #[.pointer (some ⟨S.soc, 0, none⟩), .int .i64 c] w fun e w' => e = .returned (.tuple #[.bool false, .int .i64 3]) ∧ Below w.heap.size w w' := by
  have c3 := h.blk.cell 3
  simp only [List.getElem?_cons_zero, List.getElem?_cons_succ] at c3
  have H := Lib.hid h; clear h
  have HC := Lib.hid hc; clear hc
  go_enter Tryz.func23, Tryz.ntmps23
  go_wp2_with fail
  refine (busDrain_out S.B n W most vs m q c HC.out _ H.out.bus).mono ?_
  rintro e w1 ⟨rfl, hB⟩
  go_wp2_with fail
  go_ret2
  exact ⟨rfl, hB⟩
theorem socUp_any (S : SocL) (n W most : Nat) (vs : Nat → Value) (m : Nat → Nat) (q : Nat → List (Nat × Nat)) (g : Gates.Gt) (c : Int) (w : World) (h : SocAt w S n W most vs m q g) :
    Calls Tryz.prog 85 #[.pointer (some ⟨S.soc, 0, none⟩), .int .i64 c] w fun e w' => e = .returned (.bool (Gates.upR g c)) ∧ w = w' := by
  have c6 := h.blk.cell 6
  simp only [List.getElem?_cons_zero, List.getElem?_cons_succ] at c6
  have HC := Lib.hid (Gates.up_any S.gate c g w h.gate h.ok); clear h
  generalize Gates.upR g c = x at *
  go_enter Tryz.func85, Tryz.ntmps85
  go_wp2_with fail
  refine HC.out.mono ?_
  rintro e w' ⟨rfl, rfl⟩
  go_wp2_with fail
  go_ret
  exact ⟨by simp, rfl⟩
theorem socEpoch_any (S : SocL) (n W most : Nat) (vs : Nat → Value) (m : Nat → Nat) (q : Nat → List (Nat × Nat)) (g : Gates.Gt) (c : Int) (w : World) (h : SocAt w S n W most vs m q g) :
    Calls Tryz.prog 27 #[.pointer (some ⟨S.soc, 0, none⟩), .int .i64 c] w fun e w' => e = .returned (.tuple #[.int .i64 (Gates.epR g c), .int .i64 (Gates.coreE g.cores c)]) ∧ w = w' := by
  have c6 := h.blk.cell 6
  simp only [List.getElem?_cons_zero, List.getElem?_cons_succ] at c6
  have HC := Lib.hid (Gates.epoch_any S.gate c g w h.gate h.ok); clear h
  generalize Gates.epR g c = x at *
  generalize Gates.coreE g.cores c = y at *
  go_enter Tryz.func27, Tryz.ntmps27
  go_wp2_with fail
  refine HC.out.mono ?_
  rintro e w' ⟨rfl, rfl⟩
  go_wp2_with fail
  go_ret2
  exact ⟨rfl, rfl⟩
theorem without_rng (l : List Int) : ∀ own : List Int, (∀ x ∈ own, 0 ≤ x ∧ x ≤ 8) → ∀ x ∈ Banks.without own l, 0 ≤ x ∧ x ≤ 8 := by
  induction l with
  | nil => intro own h; exact h
  | cons y l ih =>
    intro own h
    refine ih _ (fun x hx => ?_)
    rcases List.mem_or_eq_of_mem_set hx with h1 | h1
    · exact h x h1
    · omega
theorem relR_ok {k : Banks.Bk} (ok : k.Ok) (c : Int) : (Banks.relR k c).1.Ok ∧ (Banks.relR k c).1.cores = k.cores := by
  unfold Banks.relR
  split
  · exact ⟨⟨ok.c0, ok.c1, ok.n0, ok.n1, (Banks.without_len _ _).trans ok.len, without_rng _ _ ok.rng⟩, rfl⟩
  · exact ⟨ok, rfl⟩
theorem SocTo.step {w w1 w2 : World} {S : SocL} {n W most : Nat} {vs v1 : Nat → Value} {m2 : Nat → Nat} {q2 : Nat → List (Nat × Nat)} {g2 : Gates.Gt} (k1 : Keep (SocF S n vs) w w1) (o1 : ∀ k, SocF S n v1 k → SocF S n vs k ∨ w.heap.size ≤ k) (h : SocTo w1 S n W most v1 m2 q2 g2 w2) : SocTo w S n W most vs m2 q2 g2 w2 := by
  obtain ⟨v2, h2, k2, o2⟩ := h
  refine ⟨v2, h2, k1.trans k2 (fun k hk hF => ?_), fun k hk => ?_⟩
  · rcases o1 k hF with e | e
    · exact e
    · omega
  · rcases o2 k hk with e | e
    · exact o1 k e
    · exact .inr (Nat.le_trans k1.size e)
theorem startR_ok {g : Gates.Gt} (ok : g.Ok) (c : Int) : (Gates.startR g c).1.Ok ∧ (Gates.startR g c).1.cores = g.cores := by
  unfold Gates.startR
  split
  · split
    · exact ⟨(ok.hold _ _).ep _ _ (by omega) (by omega), rfl⟩
    · exact ⟨ok, rfl⟩
  · exact ⟨ok, rfl⟩
theorem holdR_ok {g : Gates.Gt} (ok : g.Ok) (c : Int) : (Gates.holdR g c).1.Ok ∧ (Gates.holdR g c).1.cores = g.cores := by
  unfold Gates.holdR
  split
  · split
    · exact ⟨ok, rfl⟩
    · exact ⟨ok.hold _ _, rfl⟩
  · exact ⟨ok, rfl⟩
theorem socStart_any (S : SocL) (n W most : Nat) (vs : Nat → Value) (m : Nat → Nat) (q : Nat → List (Nat × Nat)) (g : Gates.Gt) (c : Int) (w : World) (h : SocAt w S n W most vs m q g) :
    Calls Tryz.prog 26 #[.pointer (some ⟨S.soc, 0, none⟩), .int .i64 c] w fun e w' => e = .returned (.int .i64 (Gates.startR g c).2) ∧ SocTo w S n W most vs m q (Gates.startR g c).1 w' := by
  have c6 := h.blk.cell 6
  simp only [List.getElem?_cons_zero, List.getElem?_cons_succ] at c6
  have H := Lib.hid h
  have hC := Gates.start_any S.gate c g w h.gate h.ok
  have hok := startR_ok h.ok c
  generalize Gates.startR g c = gr at *
  obtain ⟨g', r⟩ := gr
  have HC := Lib.hid hC
  have HOK := Lib.hid hok
  clear h hC hok
  go_enter Tryz.func26, Tryz.ntmps26
  go_wp2_with fail
  refine HC.out.mono ?_
  rintro e w1 ⟨rfl, hA, hG⟩
  have hT := H.out.gateTo hA HOK.out.1 (HOK.out.2.trans H.out.cores) hG
  have HT := Lib.hid hT
  clear hA hG hT
  go_wp2_with fail
  go_ret
  exact ⟨rfl, HT.out⟩
theorem socHold_no (S : SocL) (n W most : Nat) (vs : Nat → Value) (m : Nat → Nat) (q : Nat → List (Nat × Nat)) (g : Gates.Gt) (c : Int) (hno : (Gates.holdR g c).2 ≠ 0) (hg : (Gates.holdR g c).1 = g) (w : World) (h : SocAt w S n W most vs m q g) :
    Calls Tryz.prog 25 #[.pointer (some ⟨S.soc, 0, none⟩), .int .i64 c] w fun e w' => e = .returned (.int .i64 (Gates.holdR g c).2) ∧ SocTo w S n W most vs m q g w' := by
  have c6 := h.blk.cell 6
  simp only [List.getElem?_cons_zero, List.getElem?_cons_succ] at c6
  have H := Lib.hid h
  have hC := Gates.hold_any S.gate c g w h.gate h.ok
  rw [hg] at hC
  have HC := Lib.hid hC; clear h hC hg
  generalize (Gates.holdR g c).2 = r at *
  have e1 : (r != 0) = true := by rw [bne_iff_ne]; exact hno
  clear hno
  go_enter Tryz.func25, Tryz.ntmps25
  go_wp2_with fail
  refine HC.out.mono ?_
  rintro e w1 ⟨rfl, hA, hG⟩
  have HT := Lib.hid (H.out.gateTo hA H.out.ok H.out.cores hG)
  clear hA hG
  go_wp2_with fail
  go_ret
  exact ⟨rfl, HT.out⟩
theorem socHold_yes (S : SocL) (n W most : Nat) (vs : Nat → Value) (m : Nat → Nat) (q : Nat → List (Nat × Nat)) (g : Gates.Gt) (c : Nat) (hc : c < n) (hu : upAt g c) (w : World) (h : SocAt w S n W most vs m q g) :
    Calls Tryz.prog 25 #[.pointer (some ⟨S.soc, 0, none⟩), .int .i64 c] w fun e w' => e = .returned (.int .i64 0) ∧ SocTo w S n W most vs m (upd q c []) (g.hold c true) w' := by
  have hE : Gates.coreE g.cores (c : Int) = 0 := by unfold Gates.coreE; rw [h.cores, if_pos (by omega)]
  have hR : Gates.holdR g (c : Int) = (g.hold c true, 0) := by unfold Gates.holdR; rw [if_pos hE, Int.toNat_natCast, if_neg (by rw [hu]; simp)]
  have c6 := h.blk.cell 6
  simp only [List.getElem?_cons_zero, List.getElem?_cons_succ] at c6
  have H := Lib.hid h
  have hC := Gates.hold_any S.gate c g w h.gate h.ok
  have hok := holdR_ok h.ok (c : Int)
  rw [hR] at hC hok
  have HC := Lib.hid hC
  have HOK := Lib.hid hok
  clear h hC hok hE hR
  generalize g.hold c true = g' at *
  go_enter Tryz.func25, Tryz.ntmps25
  go_wp2_with fail
  refine HC.out.mono ?_
  rintro e w1 ⟨rfl, hA, hG⟩
  obtain ⟨v1, hS1, hK1, hO1⟩ := H.out.gateTo hA HOK.out.1 (HOK.out.2.trans H.out.cores) hG
  have HQ1 := Lib.hid (And.intro hK1 hO1)
  have c3 := hS1.blk.cell 3
  simp only [List.getElem?_cons_zero, List.getElem?_cons_succ] at c3
  have HS1 := Lib.hid hS1
  clear hA hG hK1 hO1 hS1 c6
  go_wp2_with fail
  refine (busLose_any S.B n W most v1 m q c hc _ HS1.out.bus).mono ?_
  rintro e w2 ⟨⟨y, rfl⟩, hT2⟩
  obtain ⟨v2, hS2, hK2, hO2⟩ := HS1.out.busTo hc hT2
  have c4 := hS2.blk.cell 4
  simp only [List.getElem?_cons_zero, List.getElem?_cons_succ] at c4
  have HS2 := Lib.hid hS2
  have HQ2 := Lib.hid (And.intro hK2 hO2)
  clear hT2 hK2 hO2 hS2 c3
  go_wp2_with fail
  refine (boxReset_any S.X n c hc _ HS2.out.box).mono ?_
  rintro e w3 ⟨⟨y, rfl⟩, hX3, hK3⟩
  obtain ⟨v3, hS3, hK3', hO3⟩ := HS2.out.boxTo hX3 hK3
  have c5 := hS3.blk.cell 5
  simp only [List.getElem?_cons_zero, List.getElem?_cons_succ] at c5
  obtain ⟨k, hl, hlo, hlc⟩ := hS3.locks
  have HS3 := Lib.hid hS3
  have HQ3 := Lib.hid (And.intro hK3' hO3)
  have HL := Lib.hid (And.intro hl hlo)
  clear hX3 hK3 hK3' hO3 hS3 c4 hl hlo
  go_wp2_with fail
  refine (Banks.release_any S.locks c k _ HL.out.1 HL.out.2).mono ?_
  rintro e w4 ⟨rfl, hA4, hG4⟩
  have hk := relR_ok HL.out.2 (c : Int)
  have hT4 := HS3.out.locksTo hA4 hk.1 (hk.2.trans hlc) hG4
  have hT := SocTo.step HQ1.out.1 HQ1.out.2 (SocTo.step HQ2.out.1 HQ2.out.2 (SocTo.step HQ3.out.1 HQ3.out.2 hT4))
  have HT := Lib.hid hT
  generalize (Banks.relR k c).2.1 = r1 at *
  generalize (Banks.relR k c).2.2 = r2 at *
  clear hT hT4 hA4 hG4
  go_wp2_with fail
  go_ret
  exact ⟨rfl, HT.out⟩
end Go.Proofs.YtaaffebnajjfhaaGreatDoor.T
