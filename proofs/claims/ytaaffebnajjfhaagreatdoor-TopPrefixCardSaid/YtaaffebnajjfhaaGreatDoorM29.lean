/- Texts of this proof, merged: TStepA, Push, TStepE. -/
import Derived.Test.YtaaffebnajjfhaaGreatDoorM22
namespace Go.Proofs.YtaaffebnajjfhaaGreatDoor.T
set_option linter.unusedVariables false
set_option linter.unusedSimpArgs false
set_option linter.unusedSectionVars false
open Go.RowKit
section
variable (b tb : Nat) (vl : Value) (g : Tak) (w : World) (p : Value) (x : Int) (T : World → Prop) (h : TakAt w b tb vl g) (hT : Calls Tryz.prog 170 #[.pointer (some ⟨b, 0, none⟩), p] w fun e w' => e = .returned (.int .i64 x) ∧ T w') (hg : ∀ w', T w' → TakAt w' b tb vl g)
include h hT hg
set_option maxRecDepth 100000 in
theorem tStep1 (hpc : g.pc = 1)  :
    Calls Tryz.prog 168 #[.pointer (some ⟨b, 0, none⟩), p] w fun e w' => e = .returned (.tuple #[.bool false, .int .i64 0]) ∧ ∃ w1, T w1 ∧ TakTo w1 b tb vl (g.asked x) w' := by
  have c10 := h.blk.cell 10
  simp only [Tak.cells, List.getElem?_cons_zero, List.getElem?_cons_succ, hpc] at c10
  have HT := Lib.hid hT; clear hT
  have HG := Lib.hid hg; clear hg h
  go_enter Tryz.func168, Tryz.ntmps168
  go_wp2_with fail
  go_step3
  go_wp2_with fail
  refine HT.out.mono ?_
  rintro e w1 ⟨rfl, ht⟩
  have hw1 := HG.out w1 ht
  have HW := Lib.hid ht; clear ht
  have c10 := hw1.blk.cell 10
  simp only [Tak.cells, List.getElem?_cons_zero, List.getElem?_cons_succ, hpc] at c10
  have hs1 := TS.start hw1; clear hw1
  have HA := Lib.hid (tAsked_any b tb vl g w1 hs1.tak x)
  have HS1 := Lib.hid hs1; clear hs1
  go_wp2_with fail
  refine HA.out.mono ?_
  rintro e w2 ⟨rfl, h2, hk2⟩
  have c10 : w2.cell? ⟨b, 10, none⟩ = some (.int .i64 g.pc) := h2.blk.cell 10
  have f10 := h2.blk.free 10
  have hfin := (HS1.out.keepOne hk2 h2).put (g' := g.asked x) 10 (.int .i64 (g.asked x).pc) (by unfold Tak.asked Tak.cells; split <;> (try split) <;> (try split) <;> rfl) (by unfold Tak.asked; split <;> (try split) <;> (try split) <;> rfl) (by unfold Tak.asked; split <;> (try split) <;> (try split) <;> rfl)
  have HF := Lib.hid hfin; clear hfin h2 hk2 hpc
  go_wp2_with fail
  rw [Exit.noGoto_ret]
  go_ret2
  exact ⟨rfl, w1, HW.out, HF.out.to⟩
set_option maxRecDepth 100000 in
theorem tStep4 (hpc : g.pc = 4) (tok : g.tab.Ok) :
    Calls Tryz.prog 168 #[.pointer (some ⟨b, 0, none⟩), p] w fun e w' => e = .returned (.tuple #[.bool true, .int .i64 8]) ∧ ∃ w1, T w1 ∧ TakTo w1 b tb vl (g.first) w' := by
  have c10 := h.blk.cell 10
  simp only [Tak.cells, List.getElem?_cons_zero, List.getElem?_cons_succ, hpc] at c10
  have HT := Lib.hid hT; clear hT
  have HG := Lib.hid hg; clear hg h
  go_enter Tryz.func168, Tryz.ntmps168
  go_wp2_with fail
  go_step3
  go_wp2_with fail
  refine HT.out.mono ?_
  rintro e w1 ⟨rfl, ht⟩
  have hw1 := HG.out w1 ht
  have HW := Lib.hid ht; clear ht
  have c10 := hw1.blk.cell 10
  simp only [Tak.cells, List.getElem?_cons_zero, List.getElem?_cons_succ, hpc] at c10
  have hs1 := TS.start hw1; clear hw1
  have HA := Lib.hid (tFirst_any b tb vl g w1 hs1.tak tok)
  have HS1 := Lib.hid hs1; clear hs1
  go_wp2_with fail
  refine HA.out.mono ?_
  rintro e w2 ⟨rfl, h2⟩
  have HF := Lib.hid h2; clear h2
  go_wp2_with fail
  rw [Exit.noGoto_ret]
  go_ret2
  exact ⟨rfl, w1, HW.out, HF.out⟩
set_option maxRecDepth 100000 in
theorem tStep5y (hpc : g.pc = 5) (hx : x = g.ep) :
    Calls Tryz.prog 168 #[.pointer (some ⟨b, 0, none⟩), p] w fun e w' => e = .returned (.tuple #[.bool false, .int .i64 0]) ∧ ∃ w1, T w1 ∧ TakTo w1 b tb vl ({ g with linked := true, pc := 6 }) w' := by
  have c10 := h.blk.cell 10
  simp only [Tak.cells, List.getElem?_cons_zero, List.getElem?_cons_succ, hpc] at c10
  subst hx
  have HT := Lib.hid hT; clear hT
  have HG := Lib.hid hg; clear hg h
  go_enter Tryz.func168, Tryz.ntmps168
  go_wp2_with fail
  go_step3
  go_wp2_with fail
  refine HT.out.mono ?_
  rintro e w1 ⟨rfl, ht⟩
  have hw1 := HG.out w1 ht
  have HW := Lib.hid ht; clear ht
  have c10 := hw1.blk.cell 10
  simp only [Tak.cells, List.getElem?_cons_zero, List.getElem?_cons_succ, hpc] at c10
  have hs1 := TS.start hw1; clear hw1
  have HE := Lib.hid (from_below (Below.refl w1.heap.size w1) (tEpoch_any b tb vl g w1 hs1.tak))
  have HS1 := Lib.hid hs1; clear hs1
  generalize hge : g.ep = gep at *
  clear hge
  go_wp2_with fail
  refine HE.out.mono ?_
  rintro e w2 ⟨rfl, hb2⟩
  have hs2 := HS1.out.fresh hb2
  clear hb2 c10
  have c6 := hs2.tak.blk.cell 6
  have c10 := hs2.tak.blk.cell 10
  simp only [Tak.cells, List.getElem?_cons_zero, List.getElem?_cons_succ] at c6 c10
  have f6 := hs2.tak.blk.free 6
  have f10 := hs2.tak.blk.free 10
  have HF := Lib.hid ((hs2.put (g' := { g with linked := true }) 6 (.bool true) rfl rfl rfl).put (g' := { g with linked := true, pc := 6 }) 10 (.int .i64 6) rfl rfl rfl); clear hs2
  go_wp2_with fail
  rw [Exit.noGoto_ret]
  go_ret2
  exact ⟨rfl, w1, HW.out, HF.out.to⟩
set_option maxRecDepth 100000 in
theorem tStep5n (hpc : g.pc = 5) (hx : x ≠ g.ep) :
    Calls Tryz.prog 168 #[.pointer (some ⟨b, 0, none⟩), p] w fun e w' => e = .returned (.tuple #[.bool true, .int .i64 9]) ∧ ∃ w1, T w1 ∧ TakTo w1 b tb vl ({ g with pc := 0 }) w' := by
  have c10 := h.blk.cell 10
  simp only [Tak.cells, List.getElem?_cons_zero, List.getElem?_cons_succ, hpc] at c10
  have hx0 : (x == g.ep) = false := by simpa using hx
  have HT := Lib.hid hT; clear hT
  have HG := Lib.hid hg; clear hg h
  go_enter Tryz.func168, Tryz.ntmps168
  go_wp2_with fail
  go_step3
  go_wp2_with fail
  refine HT.out.mono ?_
  rintro e w1 ⟨rfl, ht⟩
  have hw1 := HG.out w1 ht
  have HW := Lib.hid ht; clear ht
  have c10 := hw1.blk.cell 10
  simp only [Tak.cells, List.getElem?_cons_zero, List.getElem?_cons_succ, hpc] at c10
  have hs1 := TS.start hw1; clear hw1
  have HE := Lib.hid (from_below (Below.refl w1.heap.size w1) (tEpoch_any b tb vl g w1 hs1.tak))
  have HS1 := Lib.hid hs1; clear hs1
  generalize hge : g.ep = gep at *
  clear hge
  go_wp2_with fail
  refine HE.out.mono ?_
  rintro e w2 ⟨rfl, hb2⟩
  have hs2 := HS1.out.fresh hb2
  clear hb2 c10
  have c6 := hs2.tak.blk.cell 6
  have c10 := hs2.tak.blk.cell 10
  simp only [Tak.cells, List.getElem?_cons_zero, List.getElem?_cons_succ] at c6 c10
  have f6 := hs2.tak.blk.free 6
  have f10 := hs2.tak.blk.free 10
  have HF := Lib.hid (hs2.put (g' := { g with pc := 0 }) 10 (.int .i64 0) rfl rfl rfl); clear hs2
  go_wp2_with fail
  rw [Exit.noGoto_ret]
  go_ret2
  exact ⟨rfl, w1, HW.out, HF.out.to⟩
set_option maxRecDepth 100000 in
theorem tStep14 (hpc : g.pc = 14) (tok : g.tab.Ok) :
    Calls Tryz.prog 168 #[.pointer (some ⟨b, 0, none⟩), p] w fun e w' => e = .returned (.tuple #[.bool true, .int .i64 (g.over x).2]) ∧ ∃ w1, T w1 ∧ TakTo w1 b tb vl ((g.over x).1) w' := by
  have c10 := h.blk.cell 10
  simp only [Tak.cells, List.getElem?_cons_zero, List.getElem?_cons_succ, hpc] at c10
  have hE := fun w1 h => tEnd_any b tb vl g w1 h x tok
  generalize (g.over x).2 = ans at *
  have HT := Lib.hid hT; clear hT
  have HG := Lib.hid hg; clear hg h
  go_enter Tryz.func168, Tryz.ntmps168
  go_wp2_with fail
  go_step3
  go_wp2_with fail
  refine HT.out.mono ?_
  rintro e w1 ⟨rfl, ht⟩
  have hw1 := HG.out w1 ht
  have HW := Lib.hid ht; clear ht
  have c10 := hw1.blk.cell 10
  simp only [Tak.cells, List.getElem?_cons_zero, List.getElem?_cons_succ, hpc] at c10
  have hs1 := TS.start hw1; clear hw1
  have HE := Lib.hid (hE w1 hs1.tak)
  have HS1 := Lib.hid hs1; clear hs1 hE
  go_wp2_with fail
  refine HE.out.mono ?_
  rintro e w2 ⟨rfl, h2⟩
  have HF := Lib.hid h2; clear h2
  go_wp2_with fail
  rw [Exit.noGoto_ret]
  go_ret2
  exact ⟨rfl, w1, HW.out, HF.out⟩
end
end Go.Proofs.YtaaffebnajjfhaaGreatDoor.T
namespace Go.Proofs.YtaaffebnajjfhaaGreatDoor.T
set_option linter.unusedVariables false
open Go.RowKit
theorem push_list {ops : Array Oper} {rest : List Oper} {o : Oper} {a : Act} {Q' : Exit → Act → World → Prop} {W w' : World} {v u v' : Value} (hgd : o.guard = none) (s x : Operand)
    (ho : o.op = .call { callee := .builtin .append, args := #[s, x], argTypes := #[31, 31] }) (hty : o.type = 31) (hs : a.eval s = v) (hx : a.eval x = u) (hr : (Builtin.append_ #[31, 31] 31 #[v, u]).run Tryz.prog W = .ok v' w') (k : wpList Tryz.prog ops Q' rest (a.put o.dst v') w') :
    wpList Tryz.prog ops Q' (o :: rest) a W := by
  refine wpList_plain hgd fun K hK => ?_
  unfold Oper.wp execOp
  simp only [ho, hty, resolve, invoke, builtin, Sem.run_bind, Sem.run_pure, Result.andThen_ok, List.map_toArray, List.map_cons, List.map_nil, hs, hx, hr]
  exact hK _ _ k
end Go.Proofs.YtaaffebnajjfhaaGreatDoor.T
namespace Go.Proofs.YtaaffebnajjfhaaGreatDoor.T
set_option linter.unusedVariables false
set_option linter.unusedSimpArgs false
set_option linter.unusedSectionVars false
open Go.RowKit
section
variable (b tb : Nat) (vl : Value) (g : Tak) (w : World) (p : Value) (x : Int) (T : World → Prop) (h : TakAt w b tb vl g) (hT : Calls Tryz.prog 170 #[.pointer (some ⟨b, 0, none⟩), p] w fun e w' => e = .returned (.int .i64 x) ∧ T w') (hg : ∀ w', T w' → TakAt w' b tb vl g)
include h hT hg
set_option maxRecDepth 100000 in
theorem tStep9w (hpc : g.pc = 9) (hx0 : 0 ≤ x) (hlen : g.load.length ≤ 8) (hll : g.load.length + 1 < g.many) :
    Calls Tryz.prog 168 #[.pointer (some ⟨b, 0, none⟩), p] w fun e w' => e = .returned (.tuple #[.bool false, .int .i64 0]) ∧ ∃ w1, T w1 ∧ TakTo w1 b tb vl ({ g with load := g.load ++ [x.toNat], answer := 0, pc := 9 }) w' := by
  have c10 := h.blk.cell 10
  simp only [Tak.cells, List.getElem?_cons_zero, List.getElem?_cons_succ, hpc] at c10
  obtain ⟨Al, cl, hvl, -, -⟩ := Row.slice h.load
  subst hvl
  generalize hnl : (nats g.load).length = nl at *
  have nl0 : ((nl + 1 : Nat) : Int) < (g.many : Int) := by rw [← hnl, nats_len]; omega
  have nl8 : nl ≤ 8 := by rw [← hnl, nats_len]; omega
  have hxx : ((x.toNat : Nat) : Int) = x := by omega
  have HXX := Lib.hid (And.intro hxx hnl)
  clear hnl hll hxx
  have HT := Lib.hid hT; clear hT
  have HG := Lib.hid hg; clear hg h
  go_enter Tryz.func168, Tryz.ntmps168
  go_wp2_with fail
  refine wp_scope_once 2 rfl ?_
  go_wp2_with fail
  refine HT.out.mono ?_
  rintro e w1 ⟨rfl, ht⟩
  have hw1 := HG.out w1 ht
  have HW := Lib.hid ht; clear ht
  have c10 := hw1.blk.cell 10
  simp only [Tak.cells, List.getElem?_cons_zero, List.getElem?_cons_succ, hpc] at c10
  have hs1 := TS.start hw1; clear hw1
  have c15 := hs1.tak.blk.cell 15
  simp only [Tak.cells, List.getElem?_cons_zero, List.getElem?_cons_succ] at c15
  have f15 := hs1.tak.blk.free 15
  have b6 : Blk (w1.alloc (.cells #[.int .i64 x] 3)) b 163 _ := hs1.tak.blk.alloc _
  have c86 : (w1.alloc (.cells #[.int .i64 x] 3)).cell? ⟨b, 15, none⟩ = some (.slice Al nl cl) := b6.cell 15
  have r5 : RowI w1 (.slice Al nl cl) (nats g.load) := hs1.tak.load
  have hP : ∃ A7 c7 w7, (Builtin.append_ #[31, 31] 31 #[.slice Al nl cl, .slice (some ⟨w1.heap.size, 0, none⟩) 1 1]).run Tryz.prog (w1.alloc (.cells #[.int .i64 x] 3)) = .ok (.slice A7 (nl + 1) c7) w7 ∧
      Row w7 3 1 (.slice A7 (nl + 1) c7) (nl + 1) (ints (nats g.load) ++ [.int .i64 x]) ∧ (w1.alloc (.cells #[.int .i64 x] 3)).grownBy w7 (Value.slice Al nl cl).ownBlock ∧
      ((Value.slice A7 (nl + 1) c7).ownBlock = (Value.slice Al nl cl).ownBlock ∨ ∃ b, (Value.slice A7 (nl + 1) c7).ownBlock = some b ∧ (w1.alloc (.cells #[.int .i64 x] 3)).heap.size ≤ b) := by
    have hn := HXX.out.2
    have := push_run w1 Al cl (nats g.load) x.toNat (by omega) (by rw [hn]; exact r5)
    rw [hn, HXX.out.1] at this
    exact this
  obtain ⟨A7, c7, w7, hr7, hR7, hg7, hat7⟩ := hP
  have b7 := b6.keep (Keep.grown hg7) (fun e => Row.ne r5 hs1.tak.blk (by decide) e)
  have c87 : w7.cell? ⟨b, 15, none⟩ = some (.slice Al nl cl) := b7.cell 15
  have f87 := b7.free 15
  have hfin : TS w1 b tb (.slice Al nl cl) (w7.setCell ⟨b, 15, none⟩ (.slice A7 (nl + 1) c7)) (.slice A7 (nl + 1) c7) { g with load := g.load ++ [x.toNat] } := by
    have e1 : ints (nats g.load) ++ [.int .i64 x] = ints (nats (g.load ++ [x.toNat])) := by simp [ints, nats, HXX.out.1]
    have e2 : nl + 1 = (nats (g.load ++ [x.toNat])).length := by rw [← HXX.out.2]; simp [nats]
    refine hs1.setLoad (((Keep.refl (fun q => (Value.slice Al nl cl).ownBlock = some q) w1).alloc _).trans' (Keep.grown hg7)) ?_ (fun q hq => ?_)
    · rw [e1, e2] at hR7
      rw [e2]
      exact hR7
    · rcases hat7 with e | ⟨k, e, hk⟩
      · exact .inl (by rw [← e]; exact hq)
      · rw [e] at hq
        injection hq with hq
        subst hq
        refine .inr ?_
        have : (w1.alloc (.cells #[.int .i64 x] 3)).heap.size = w1.heap.size + 1 := by simp
        omega
  have HFIN := Lib.hid hfin
  clear hfin b6 b7 r5 hR7 hg7 hat7 hs1
  have HR7 := Lib.hid hr7; clear hr7
  go_wp2_with (at_builtin; refine push_list rfl _ _ rfl rfl rfl rfl HR7.out ?_)
  go_step3
  refine ⟨rfl, ?_⟩
  have hs3 := HFIN.out
  clear c86 c87 f87 c10 c15 f15
  generalize w7.setCell ⟨b, 15, none⟩ (Value.slice A7 (nl + 1) c7) = W3 at hs3 ⊢
  have c12 := hs3.tak.blk.cell 12
  have c13 := hs3.tak.blk.cell 13
  have c15 := hs3.tak.blk.cell 15
  simp only [Tak.cells, List.getElem?_cons_zero, List.getElem?_cons_succ] at c12 c13 c15
  have f13 := hs3.tak.blk.free 13
  have hs4 := hs3.put (g' := { g with load := g.load ++ [x.toNat], answer := 0 }) 13 (.int .i64 0) rfl rfl rfl
  have HS4 := Lib.hid hs4; clear hs4 hs3
  go_wp2_with fail
  go_region
  go_wp2_with fail
  have hE : ({ g with load := g.load ++ [x.toNat], answer := 0, pc := 9 } : Tak) = { g with load := g.load ++ [x.toNat], answer := 0 } := by rw [← hpc]
  rw [Exit.noGoto_ret]
  go_ret2
  exact ⟨rfl, w1, HW.out, by rw [hE]; exact HS4.out.drew.to⟩
set_option maxRecDepth 100000 in
theorem tStep9d (hpc : g.pc = 9) (hx0 : 0 ≤ x) (hlen : g.load.length ≤ 8) (hll : g.many ≤ g.load.length + 1) :
    Calls Tryz.prog 168 #[.pointer (some ⟨b, 0, none⟩), p] w fun e w' => e = .returned (.tuple #[.bool false, .int .i64 0]) ∧ ∃ w1, T w1 ∧ TakTo w1 b tb vl ({ g with load := g.load ++ [x.toNat], answer := 0, pc := 14 }) w' := by
  have c10 := h.blk.cell 10
  simp only [Tak.cells, List.getElem?_cons_zero, List.getElem?_cons_succ, hpc] at c10
  obtain ⟨Al, cl, hvl, -, -⟩ := Row.slice h.load
  subst hvl
  generalize hnl : (nats g.load).length = nl at *
  have nl0 : (g.many : Int) ≤ ((nl + 1 : Nat) : Int) := by rw [← hnl, nats_len]; omega
  have nl8 : nl ≤ 8 := by rw [← hnl, nats_len]; omega
  have hxx : ((x.toNat : Nat) : Int) = x := by omega
  have HXX := Lib.hid (And.intro hxx hnl)
  clear hnl hll hxx
  have HT := Lib.hid hT; clear hT
  have HG := Lib.hid hg; clear hg h
  go_enter Tryz.func168, Tryz.ntmps168
  go_wp2_with fail
  refine wp_scope_two 2 0 rfl rfl ?_
  go_wp2_with fail
  refine HT.out.mono ?_
  rintro e w1 ⟨rfl, ht⟩
  have hw1 := HG.out w1 ht
  have HW := Lib.hid ht; clear ht
  have c10 := hw1.blk.cell 10
  simp only [Tak.cells, List.getElem?_cons_zero, List.getElem?_cons_succ, hpc] at c10
  have hs1 := TS.start hw1; clear hw1
  have c15 := hs1.tak.blk.cell 15
  simp only [Tak.cells, List.getElem?_cons_zero, List.getElem?_cons_succ] at c15
  have f15 := hs1.tak.blk.free 15
  have b6 : Blk (w1.alloc (.cells #[.int .i64 x] 3)) b 163 _ := hs1.tak.blk.alloc _
  have c86 : (w1.alloc (.cells #[.int .i64 x] 3)).cell? ⟨b, 15, none⟩ = some (.slice Al nl cl) := b6.cell 15
  have r5 : RowI w1 (.slice Al nl cl) (nats g.load) := hs1.tak.load
  have hP : ∃ A7 c7 w7, (Builtin.append_ #[31, 31] 31 #[.slice Al nl cl, .slice (some ⟨w1.heap.size, 0, none⟩) 1 1]).run Tryz.prog (w1.alloc (.cells #[.int .i64 x] 3)) = .ok (.slice A7 (nl + 1) c7) w7 ∧
      Row w7 3 1 (.slice A7 (nl + 1) c7) (nl + 1) (ints (nats g.load) ++ [.int .i64 x]) ∧ (w1.alloc (.cells #[.int .i64 x] 3)).grownBy w7 (Value.slice Al nl cl).ownBlock ∧
      ((Value.slice A7 (nl + 1) c7).ownBlock = (Value.slice Al nl cl).ownBlock ∨ ∃ b, (Value.slice A7 (nl + 1) c7).ownBlock = some b ∧ (w1.alloc (.cells #[.int .i64 x] 3)).heap.size ≤ b) := by
    have hn := HXX.out.2
    have := push_run w1 Al cl (nats g.load) x.toNat (by omega) (by rw [hn]; exact r5)
    rw [hn, HXX.out.1] at this
    exact this
  obtain ⟨A7, c7, w7, hr7, hR7, hg7, hat7⟩ := hP
  have b7 := b6.keep (Keep.grown hg7) (fun e => Row.ne r5 hs1.tak.blk (by decide) e)
  have c87 : w7.cell? ⟨b, 15, none⟩ = some (.slice Al nl cl) := b7.cell 15
  have f87 := b7.free 15
  have hfin : TS w1 b tb (.slice Al nl cl) (w7.setCell ⟨b, 15, none⟩ (.slice A7 (nl + 1) c7)) (.slice A7 (nl + 1) c7) { g with load := g.load ++ [x.toNat] } := by
    have e1 : ints (nats g.load) ++ [.int .i64 x] = ints (nats (g.load ++ [x.toNat])) := by simp [ints, nats, HXX.out.1]
    have e2 : nl + 1 = (nats (g.load ++ [x.toNat])).length := by rw [← HXX.out.2]; simp [nats]
    refine hs1.setLoad (((Keep.refl (fun q => (Value.slice Al nl cl).ownBlock = some q) w1).alloc _).trans' (Keep.grown hg7)) ?_ (fun q hq => ?_)
    · rw [e1, e2] at hR7
      rw [e2]
      exact hR7
    · rcases hat7 with e | ⟨k, e, hk⟩
      · exact .inl (by rw [← e]; exact hq)
      · rw [e] at hq
        injection hq with hq
        subst hq
        refine .inr ?_
        have : (w1.alloc (.cells #[.int .i64 x] 3)).heap.size = w1.heap.size + 1 := by simp
        omega
  have HFIN := Lib.hid hfin
  clear hfin b6 b7 r5 hR7 hg7 hat7 hs1
  have HR7 := Lib.hid hr7; clear hr7
  go_wp2_with (at_builtin; refine push_list rfl _ _ rfl rfl rfl rfl HR7.out ?_)
  go_step3
  refine ⟨rfl, ?_⟩
  have hs3 := HFIN.out
  clear c86 c87 f87 c10 c15 f15
  generalize w7.setCell ⟨b, 15, none⟩ (Value.slice A7 (nl + 1) c7) = W3 at hs3 ⊢
  have c12 := hs3.tak.blk.cell 12
  have c13 := hs3.tak.blk.cell 13
  have c15 := hs3.tak.blk.cell 15
  simp only [Tak.cells, List.getElem?_cons_zero, List.getElem?_cons_succ] at c12 c13 c15
  have f13 := hs3.tak.blk.free 13
  have hs4 := hs3.put (g' := { g with load := g.load ++ [x.toNat], answer := 0 }) 13 (.int .i64 0) rfl rfl rfl
  have HS4 := Lib.hid hs4; clear hs4 hs3
  go_wp2_with fail
  go_region
  go_wp2_with fail
  go_step3
  refine ⟨rfl, ?_⟩
  have hs5 := HS4.out.drew
  clear c12 c13 c15 f13
  have c10 := hs5.tak.blk.cell 10
  simp only [Tak.cells, List.getElem?_cons_zero, List.getElem?_cons_succ] at c10
  have f10 := hs5.tak.blk.free 10
  have HF := Lib.hid (hs5.put (g' := { g with load := g.load ++ [x.toNat], answer := 0, pc := 14 }) 10 (.int .i64 14) rfl rfl rfl); clear hs5
  go_wp2_with fail
  rw [Exit.noGoto_ret]
  go_ret2
  exact ⟨rfl, w1, HW.out, HF.out.to⟩
end
end Go.Proofs.YtaaffebnajjfhaaGreatDoor.T
