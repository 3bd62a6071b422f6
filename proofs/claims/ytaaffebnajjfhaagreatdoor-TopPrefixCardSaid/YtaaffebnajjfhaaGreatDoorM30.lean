/- Texts of this proof, merged: TStepB. -/
import Derived.Test.YtaaffebnajjfhaaGreatDoorM22
namespace Go.Proofs.YtaaffebnajjfhaaGreatDoor.T
set_option linter.unusedVariables false
set_option linter.unusedSimpArgs false
set_option linter.unusedSectionVars false
open Go.RowKit
section
variable (b tb : Nat) (vl : Value) (g : Tak) (w : World) (p : Value) (x : Int) (T : World → Prop) (h : TakAt w b tb vl g) (hT : Calls Tryz.prog 170 #[.pointer (some ⟨b, 0, none⟩), p] w fun e w' => e = .returned (.int .i64 x) ∧ T w') (hg : ∀ w', T w' → TakAt w' b tb vl g)
include h hT hg
set_option maxRecDepth 100000 in
theorem tStep2 (hpc : g.pc = 2)  :
    Calls Tryz.prog 168 #[.pointer (some ⟨b, 0, none⟩), p] w fun e w' => e = .returned (.tuple #[.bool false, .int .i64 0]) ∧ ∃ w1, T w1 ∧ TakTo w1 b tb vl ({ g with pc := 3 }) w' := by
  have c10 := h.blk.cell 10
  simp only [Tak.cells, List.getElem?_cons_zero, List.getElem?_cons_succ, hpc] at c10
  have HT := Lib.hid hT; clear hT
  have HG := Lib.hid hg; clear hg h
  go_enter Tryz.func168, Tryz.ntmps168
  go_wp2_with fail
  go_step3
  go_wp2_with fail
  refine HT.out.mono ?_
  rintro e w1 ⟨rfl, ht⟩
  have hw1 := HG.out w1 ht
  have HW := Lib.hid ht; clear ht
  have c10 := hw1.blk.cell 10
  simp only [Tak.cells, List.getElem?_cons_zero, List.getElem?_cons_succ, hpc] at c10
  have hs1 := TS.start hw1; clear hw1
  have f10 := hs1.tak.blk.free 10
  have HF := Lib.hid (hs1.put (g' := { g with pc := 3 }) 10 (.int .i64 3) rfl rfl rfl); clear hs1
  go_wp2_with fail
  rw [Exit.noGoto_ret]
  go_ret2
  exact ⟨rfl, w1, HW.out, HF.out.to⟩
set_option maxRecDepth 100000 in
theorem tStep3 (hpc : g.pc = 3)  :
    Calls Tryz.prog 168 #[.pointer (some ⟨b, 0, none⟩), p] w fun e w' => e = .returned (.tuple #[.bool false, .int .i64 0]) ∧ ∃ w1, T w1 ∧ TakTo w1 b tb vl ({ g with pc := 4 }) w' := by
  have c10 := h.blk.cell 10
  simp only [Tak.cells, List.getElem?_cons_zero, List.getElem?_cons_succ, hpc] at c10
  have HT := Lib.hid hT; clear hT
  have HG := Lib.hid hg; clear hg h
  go_enter Tryz.func168, Tryz.ntmps168
  go_wp2_with fail
  go_step3
  go_wp2_with fail
  refine HT.out.mono ?_
  rintro e w1 ⟨rfl, ht⟩
  have hw1 := HG.out w1 ht
  have HW := Lib.hid ht; clear ht
  have c10 := hw1.blk.cell 10
  simp only [Tak.cells, List.getElem?_cons_zero, List.getElem?_cons_succ, hpc] at c10
  have hs1 := TS.start hw1; clear hw1
  have f10 := hs1.tak.blk.free 10
  have HF := Lib.hid (hs1.put (g' := { g with pc := 4 }) 10 (.int .i64 4) rfl rfl rfl); clear hs1
  go_wp2_with fail
  rw [Exit.noGoto_ret]
  go_ret2
  exact ⟨rfl, w1, HW.out, HF.out.to⟩
set_option maxRecDepth 100000 in
theorem tStep10 (hpc : g.pc = 10)  :
    Calls Tryz.prog 168 #[.pointer (some ⟨b, 0, none⟩), p] w fun e w' => e = .returned (.tuple #[.bool false, .int .i64 0]) ∧ ∃ w1, T w1 ∧ TakTo w1 b tb vl ({ g with pc := 11 }) w' := by
  have c10 := h.blk.cell 10
  simp only [Tak.cells, List.getElem?_cons_zero, List.getElem?_cons_succ, hpc] at c10
  have HT := Lib.hid hT; clear hT
  have HG := Lib.hid hg; clear hg h
  go_enter Tryz.func168, Tryz.ntmps168
  go_wp2_with fail
  go_step3
  go_wp2_with fail
  refine HT.out.mono ?_
  rintro e w1 ⟨rfl, ht⟩
  have hw1 := HG.out w1 ht
  have HW := Lib.hid ht; clear ht
  have c10 := hw1.blk.cell 10
  simp only [Tak.cells, List.getElem?_cons_zero, List.getElem?_cons_succ, hpc] at c10
  have hs1 := TS.start hw1; clear hw1
  have f10 := hs1.tak.blk.free 10
  have HF := Lib.hid (hs1.put (g' := { g with pc := 11 }) 10 (.int .i64 11) rfl rfl rfl); clear hs1
  go_wp2_with fail
  rw [Exit.noGoto_ret]
  go_ret2
  exact ⟨rfl, w1, HW.out, HF.out.to⟩
set_option maxRecDepth 100000 in
theorem tStep11 (hpc : g.pc = 11)  :
    Calls Tryz.prog 168 #[.pointer (some ⟨b, 0, none⟩), p] w fun e w' => e = .returned (.tuple #[.bool false, .int .i64 0]) ∧ ∃ w1, T w1 ∧ TakTo w1 b tb vl ({ g with pc := 12 }) w' := by
  have c10 := h.blk.cell 10
  simp only [Tak.cells, List.getElem?_cons_zero, List.getElem?_cons_succ, hpc] at c10
  have HT := Lib.hid hT; clear hT
  have HG := Lib.hid hg; clear hg h
  go_enter Tryz.func168, Tryz.ntmps168
  go_wp2_with fail
  go_step3
  go_wp2_with fail
  refine HT.out.mono ?_
  rintro e w1 ⟨rfl, ht⟩
  have hw1 := HG.out w1 ht
  have HW := Lib.hid ht; clear ht
  have c10 := hw1.blk.cell 10
  simp only [Tak.cells, List.getElem?_cons_zero, List.getElem?_cons_succ, hpc] at c10
  have hs1 := TS.start hw1; clear hw1
  have f10 := hs1.tak.blk.free 10
  have HF := Lib.hid (hs1.put (g' := { g with pc := 12 }) 10 (.int .i64 12) rfl rfl rfl); clear hs1
  go_wp2_with fail
  rw [Exit.noGoto_ret]
  go_ret2
  exact ⟨rfl, w1, HW.out, HF.out.to⟩
set_option maxRecDepth 100000 in
theorem tStep12 (hpc : g.pc = 12)  :
    Calls Tryz.prog 168 #[.pointer (some ⟨b, 0, none⟩), p] w fun e w' => e = .returned (.tuple #[.bool false, .int .i64 0]) ∧ ∃ w1, T w1 ∧ TakTo w1 b tb vl ({ g with pc := 13 }) w' := by
  have c10 := h.blk.cell 10
  simp only [Tak.cells, List.getElem?_cons_zero, List.getElem?_cons_succ, hpc] at c10
  have HT := Lib.hid hT; clear hT
  have HG := Lib.hid hg; clear hg h
  go_enter Tryz.func168, Tryz.ntmps168
  go_wp2_with fail
  go_step3
  go_wp2_with fail
  refine HT.out.mono ?_
  rintro e w1 ⟨rfl, ht⟩
  have hw1 := HG.out w1 ht
  have HW := Lib.hid ht; clear ht
  have c10 := hw1.blk.cell 10
  simp only [Tak.cells, List.getElem?_cons_zero, List.getElem?_cons_succ, hpc] at c10
  have hs1 := TS.start hw1; clear hw1
  have f10 := hs1.tak.blk.free 10
  have HF := Lib.hid (hs1.put (g' := { g with pc := 13 }) 10 (.int .i64 13) rfl rfl rfl); clear hs1
  go_wp2_with fail
  rw [Exit.noGoto_ret]
  go_ret2
  exact ⟨rfl, w1, HW.out, HF.out.to⟩
set_option maxRecDepth 100000 in
theorem tStep13 (hpc : g.pc = 13)  :
    Calls Tryz.prog 168 #[.pointer (some ⟨b, 0, none⟩), p] w fun e w' => e = .returned (.tuple #[.bool false, .int .i64 0]) ∧ ∃ w1, T w1 ∧ TakTo w1 b tb vl ({ g with answer := 0, pc := 14 }) w' := by
  have c10 := h.blk.cell 10
  simp only [Tak.cells, List.getElem?_cons_zero, List.getElem?_cons_succ, hpc] at c10
  have HT := Lib.hid hT; clear hT
  have HG := Lib.hid hg; clear hg h
  go_enter Tryz.func168, Tryz.ntmps168
  go_wp2_with fail
  refine wp_scope_once 0 rfl ?_
  go_wp2_with fail
  refine HT.out.mono ?_
  rintro e w1 ⟨rfl, ht⟩
  have hw1 := HG.out w1 ht
  have HW := Lib.hid ht; clear ht
  have c10 := hw1.blk.cell 10
  simp only [Tak.cells, List.getElem?_cons_zero, List.getElem?_cons_succ, hpc] at c10
  have hs1 := TS.start hw1; clear hw1
  have c13 := hs1.tak.blk.cell 13
  simp only [Tak.cells, List.getElem?_cons_zero, List.getElem?_cons_succ] at c13
  have f13 := hs1.tak.blk.free 13
  have hs3 := hs1.put (g' := { g with answer := 0 }) 13 (.int .i64 0) rfl rfl rfl
  have HS3 := Lib.hid hs3; clear hs1 hs3
  go_wp2_with fail
  go_step3
  refine ⟨rfl, ?_⟩
  have hs3 := HS3.out
  clear c10 c13 f13
  generalize w1.setCell ⟨b, 13, none⟩ (Value.int IntKind.i64 0) = W3 at hs3 ⊢
  have c10 := hs3.tak.blk.cell 10
  simp only [Tak.cells, List.getElem?_cons_zero, List.getElem?_cons_succ] at c10
  have f10 := hs3.tak.blk.free 10
  have HF := Lib.hid (hs3.put (g' := { g with answer := 0, pc := 14 }) 10 (.int .i64 14) rfl rfl rfl); clear hs3
  go_wp2_with fail
  rw [Exit.noGoto_ret]
  go_ret2
  exact ⟨rfl, w1, HW.out, HF.out.to⟩
end
end Go.Proofs.YtaaffebnajjfhaaGreatDoor.T
