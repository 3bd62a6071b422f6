/- Texts of this proof, merged: TStepC. -/
import Derived.Test.YtaaffebnajjfhaaGreatDoorH11
namespace Go.Proofs.YtaaffebnajjfhaaGreatDoor.T
set_option linter.unusedVariables false
set_option linter.unusedSimpArgs false
set_option linter.unusedSectionVars false
open Go.RowKit
section
variable (b tb:Nat) (vl:Value) (g:Tak) (w:World) (p:Value) (x:Int) (T:World→Prop) (h:TakAt w b tb vl g) (hT:Calls Tryz.prog 170 #[.pointer (some ⟨b,0,none⟩),p] w fun e w'=>e= .returned (.int .i64 x)∧T w') (hg:∀w',T w'→TakAt w' b tb vl g)
include h hT hg
set_option maxRecDepth 100000 in
theorem tStep6y (hpc:g.pc=6) (tok:g.tab.Ok) (hr0:1≤g.ring) (hr:g.ring≤64) (hx:g.waiting x=0):
  Calls Tryz.prog 168 #[.pointer (some ⟨b,0,none⟩),p] w fun e w'=>e= .returned (.tuple #[.bool false, .int .i64 0])∧∃w1,T w1∧TakTo w1 b tb vl ({ g with answer:=0,pc:=7 }) w':=by
 have c10:=h.blk.cell 10
 simp only [Tak.cells,List.getElem?_cons_zero,List.getElem?_cons_succ,hpc] at c10
 have hWT:=fun w1 h=>tWaiting_any b tb vl g w1 h x tok hr0 hr
 rw [hx] at hWT
 have HT:=Lib.hid hT;clear hT
 have HG:=Lib.hid hg;clear hg h
 go_enter Tryz.func168,Tryz.ntmps168
 go_wp2_with fail
 go_step3
 go_wp2_with fail
 refine HT.out.mono ?_
 rintro e w1 ⟨rfl,ht⟩
 have hw1:=HG.out w1 ht
 have HW:=Lib.hid ht;clear ht
 have c10:=hw1.blk.cell 10
 simp only [Tak.cells,List.getElem?_cons_zero,List.getElem?_cons_succ,hpc] at c10
 have hs1:=TS.start hw1;clear hw1
 have HA:=Lib.hid (hWT w1 hs1.tak)
 have HS1:=Lib.hid hs1;clear hs1 hWT
 go_wp2_with fail
 refine HA.out.mono ?_
 rintro e w2 ⟨rfl,hb2⟩
 have hs2:=HS1.out.fresh hb2
 clear hb2 c10
 have c10:=hs2.tak.blk.cell 10
 have c13:=hs2.tak.blk.cell 13
 simp only [Tak.cells,List.getElem?_cons_zero,List.getElem?_cons_succ] at c10 c13
 have f10:=hs2.tak.blk.free 10
 have f13:=hs2.tak.blk.free 13
 have hs3:=hs2.put (g':= { g with answer:=0 }) 13 (.int .i64 0) rfl rfl rfl
 have HF:=Lib.hid (hs3.put (g':= { g with answer:=0,pc:=7 }) 10 (.int .i64 7) rfl rfl rfl);clear hs3 hs2
 go_wp2_with fail
 rw [Exit.noGoto_ret]
 go_ret2
 exact ⟨rfl,w1,HW.out,HF.out.to⟩
set_option maxRecDepth 100000 in
theorem tStep6n (hpc:g.pc=6) (tok:g.tab.Ok) (hr0:1≤g.ring) (hr:g.ring≤64) (hx:g.waiting x≠0):
  Calls Tryz.prog 168 #[.pointer (some ⟨b,0,none⟩),p] w fun e w'=>e= .returned (.tuple #[.bool false, .int .i64 0])∧∃w1,T w1∧TakTo w1 b tb vl ({ g with answer:=g.waiting x,pc:=14 }) w':=by
 have c10:=h.blk.cell 10
 simp only [Tak.cells,List.getElem?_cons_zero,List.getElem?_cons_succ,hpc] at c10
 have hWT:=fun w1 h=>tWaiting_any b tb vl g w1 h x tok hr0 hr
 have e1:(g.waiting x == 0)=false:=by simpa using hx
 have e1':(g.waiting x != 0)=true:=by simpa using hx
 generalize g.waiting x=y at *
 have HT:=Lib.hid hT;clear hT
 have HG:=Lib.hid hg;clear hg h
 go_enter Tryz.func168,Tryz.ntmps168
 go_wp2_with fail
 refine wp_scope_once 0 rfl ?_
 go_wp2_with fail
 refine HT.out.mono ?_
 rintro e w1 ⟨rfl,ht⟩
 have hw1:=HG.out w1 ht
 have HW:=Lib.hid ht;clear ht
 have c10:=hw1.blk.cell 10
 simp only [Tak.cells,List.getElem?_cons_zero,List.getElem?_cons_succ,hpc] at c10
 have hs1:=TS.start hw1;clear hw1
 have HA:=Lib.hid (hWT w1 hs1.tak)
 have HS1:=Lib.hid hs1;clear hs1 hWT
 go_wp2_with fail
 refine HA.out.mono ?_
 rintro e w2 ⟨rfl,hb2⟩
 have hs2:=HS1.out.fresh hb2
 clear hb2 c10
 have c10:=hs2.tak.blk.cell 10
 have c13:=hs2.tak.blk.cell 13
 simp only [Tak.cells,List.getElem?_cons_zero,List.getElem?_cons_succ] at c10 c13
 have f10:=hs2.tak.blk.free 10
 have f13:=hs2.tak.blk.free 13
 have hs3:=hs2.put (g':= { g with answer:=y }) 13 (.int .i64 y) rfl rfl rfl
 have HS3:=Lib.hid hs3;clear hs3 hs2
 go_wp2_with fail
 go_step3
 refine ⟨rfl, ?_⟩
 have hs3:=HS3.out
 clear c10 c13 f10 f13
 generalize w2.setCell ⟨b,13,none⟩ (Value.int IntKind.i64 y)=W3 at hs3 ⊢
 have c10:=hs3.tak.blk.cell 10
 simp only [Tak.cells,List.getElem?_cons_zero,List.getElem?_cons_succ] at c10
 have f10:=hs3.tak.blk.free 10
 have HF:=Lib.hid (hs3.put (g':= { g with answer:=y,pc:=14 }) 10 (.int .i64 14) rfl rfl rfl);clear hs3
 go_wp2_with fail
 rw [Exit.noGoto_ret]
 go_ret2
 exact ⟨rfl,w1,HW.out,HF.out.to⟩
set_option maxRecDepth 100000 in
theorem tStep7a (hpc:g.pc=7) (hx:(g.ring:Int)≤x):
  Calls Tryz.prog 168 #[.pointer (some ⟨b,0,none⟩),p] w fun e w'=>e= .returned (.tuple #[.bool false, .int .i64 0])∧∃w1,T w1∧TakTo w1 b tb vl ({ g with answer:=10,pc:=14 }) w':=by
 have c10:=h.blk.cell 10
 simp only [Tak.cells,List.getElem?_cons_zero,List.getElem?_cons_succ,hpc] at c10
 have HT:=Lib.hid hT;clear hT
 have HG:=Lib.hid hg;clear hg h
 go_enter Tryz.func168,Tryz.ntmps168
 go_wp2_with fail
 refine wp_scope_once 1 rfl ?_
 go_wp2_with fail
 refine HT.out.mono ?_
 rintro e w1 ⟨rfl,ht⟩
 have hw1:=HG.out w1 ht
 have HW:=Lib.hid ht;clear ht
 have c10:=hw1.blk.cell 10
 simp only [Tak.cells,List.getElem?_cons_zero,List.getElem?_cons_succ,hpc] at c10
 have hs1:=TS.start hw1;clear hw1
 have c1:=hs1.tak.blk.cell 1
 simp only [Tak.cells,List.getElem?_cons_zero,List.getElem?_cons_succ] at c1
 have HS1:=Lib.hid hs1;clear hs1
 go_wp2_with fail
 go_step3
 refine ⟨rfl, ?_⟩
 have hs3:=HS1.out
 clear c10 c1
 have c10:=hs3.tak.blk.cell 10
 have c13:=hs3.tak.blk.cell 13
 simp only [Tak.cells,List.getElem?_cons_zero,List.getElem?_cons_succ] at c10 c13
 have f10:=hs3.tak.blk.free 10
 have f13:=hs3.tak.blk.free 13
 have HF:=Lib.hid ((hs3.put (g':= { g with answer:=10 }) 13 (.int .i64 10) rfl rfl rfl).put (g':= { g with answer:=10,pc:=14 }) 10 (.int .i64 14) rfl rfl rfl);clear hs3
 go_wp2_with fail
 go_step3
 go_wp2_with fail
 rw [Exit.noGoto_ret]
 go_ret2
 exact ⟨rfl,w1,HW.out,HF.out.to⟩
set_option maxRecDepth 100000 in
theorem tStep7b (hpc:g.pc=7) (tok:g.tab.Ok) (hx:x<(g.ring:Int)) (hi:0≤idx g.held x):
  Calls Tryz.prog 168 #[.pointer (some ⟨b,0,none⟩),p] w fun e w'=>e= .returned (.tuple #[.bool false, .int .i64 0])∧∃w1,T w1∧TakTo w1 b tb vl ({ g with answer:=10,pc:=14 }) w':=by
 have c10:=h.blk.cell 10
 simp only [Tak.cells,List.getElem?_cons_zero,List.getElem?_cons_succ,hpc] at c10
 have hl64:=heldR_len g.tab tok
 have hdec:decide (0≤idx g.held x)=true:=by simpa using hi
 unfold Tak.held at hdec
 have hH:=fun u (hu:TakAt u b tb vl g)=>Grants.held_any tb g.tab u hu.tab tok
 have hC:=fun v u (hr:ReadI u v (Grants.heldR g.tab))=>contains_any v (Grants.heldR g.tab) x (by omega) u hr
 rw [hdec] at hC
 have HCC:=Lib.hid hC
 have HHH:=Lib.hid hH
 clear hC hH hdec hi hl64
 have HT:=Lib.hid hT;clear hT
 have HG:=Lib.hid hg;clear hg h
 go_enter Tryz.func168,Tryz.ntmps168
 go_wp2_with fail
 refine wp_scope_once 1 rfl ?_
 go_wp2_with fail
 refine HT.out.mono ?_
 rintro e w1 ⟨rfl,ht⟩
 have hw1:=HG.out w1 ht
 have HW:=Lib.hid ht;clear ht
 have c10:=hw1.blk.cell 10
 simp only [Tak.cells,List.getElem?_cons_zero,List.getElem?_cons_succ,hpc] at c10
 have hs1:=TS.start hw1;clear hw1
 have c1:=hs1.tak.blk.cell 1
 have c9:=hs1.tak.blk.cell 9
 simp only [Tak.cells,List.getElem?_cons_zero,List.getElem?_cons_succ] at c1 c9
 have HA:=Lib.hid (HHH.out w1 hs1.tak)
 have HS1:=Lib.hid hs1;clear hs1
 go_wp2_with fail
 refine HA.out.mono ?_
 rintro e w2 ⟨v2,rfl,hown,hb2⟩
 have HRD:=Lib.hid (owned_read (xs:=Grants.heldR g.tab) hown)
 obtain ⟨A2,k2,hv2⟩:=owned_slice hown
 subst hv2
 have hs2:=HS1.out.fresh hb2
 clear hb2 hown c10 c1 c9
 have HS2:=Lib.hid hs2;clear hs2
 go_wp2_with fail
 refine (HCC.out _ _ HRD.out).mono ?_
 rintro e w3 ⟨rfl,rfl⟩
 have hs3:=HS2.out
 go_wp2_with fail
 go_step3
 refine ⟨rfl, ?_⟩
 have c10:=hs3.tak.blk.cell 10
 have c13:=hs3.tak.blk.cell 13
 simp only [Tak.cells,List.getElem?_cons_zero,List.getElem?_cons_succ] at c10 c13
 have f10:=hs3.tak.blk.free 10
 have f13:=hs3.tak.blk.free 13
 have HF:=Lib.hid ((hs3.put (g':= { g with answer:=10 }) 13 (.int .i64 10) rfl rfl rfl).put (g':= { g with answer:=10,pc:=14 }) 10 (.int .i64 14) rfl rfl rfl);clear hs3
 go_wp2_with fail
 go_step3
 go_wp2_with fail
 rw [Exit.noGoto_ret]
 go_ret2
 exact ⟨rfl,w1,HW.out,HF.out.to⟩
set_option maxRecDepth 100000 in
theorem tStep7y (hpc:g.pc=7) (tok:g.tab.Ok) (hx:x<(g.ring:Int)) (hi:idx g.held x<0) (hx0:0≤x):
  Calls Tryz.prog 168 #[.pointer (some ⟨b,0,none⟩),p] w fun e w'=>e= .returned (.tuple #[.bool false, .int .i64 0])∧∃w1,T w1∧TakTo w1 b tb vl ({ g with d:=x.toNat,pc:=8 }) w':=by
 have c10:=h.blk.cell 10
 simp only [Tak.cells,List.getElem?_cons_zero,List.getElem?_cons_succ,hpc] at c10
 have hl64:=heldR_len g.tab tok
 have hdec:decide (0≤idx g.held x)=false:=by simpa using hi
 unfold Tak.held at hdec
 have hH:=fun u (hu:TakAt u b tb vl g)=>Grants.held_any tb g.tab u hu.tab tok
 have hC:=fun v u (hr:ReadI u v (Grants.heldR g.tab))=>contains_any v (Grants.heldR g.tab) x (by omega) u hr
 rw [hdec] at hC
 have HCC:=Lib.hid hC
 have HHH:=Lib.hid hH
 clear hC hH hdec hi hl64
 have HT:=Lib.hid hT;clear hT
 have HG:=Lib.hid hg;clear hg h
 go_enter Tryz.func168,Tryz.ntmps168
 go_wp2_with fail
 go_step3
 go_wp2_with fail
 refine HT.out.mono ?_
 rintro e w1 ⟨rfl,ht⟩
 have hw1:=HG.out w1 ht
 have HW:=Lib.hid ht;clear ht
 have c10:=hw1.blk.cell 10
 simp only [Tak.cells,List.getElem?_cons_zero,List.getElem?_cons_succ,hpc] at c10
 have hs1:=TS.start hw1;clear hw1
 have c1:=hs1.tak.blk.cell 1
 have c9:=hs1.tak.blk.cell 9
 simp only [Tak.cells,List.getElem?_cons_zero,List.getElem?_cons_succ] at c1 c9
 have HA:=Lib.hid (HHH.out w1 hs1.tak)
 have HS1:=Lib.hid hs1;clear hs1
 go_wp2_with fail
 refine HA.out.mono ?_
 rintro e w2 ⟨v2,rfl,hown,hb2⟩
 have HRD:=Lib.hid (owned_read (xs:=Grants.heldR g.tab) hown)
 obtain ⟨A2,k2,hv2⟩:=owned_slice hown
 subst hv2
 have hs2:=HS1.out.fresh hb2
 clear hb2 hown c10 c1 c9
 have HS2:=Lib.hid hs2;clear hs2
 go_wp2_with fail
 refine (HCC.out _ _ HRD.out).mono ?_
 rintro e w3 ⟨rfl,rfl⟩
 have hs3:=HS2.out
 have c10:=hs3.tak.blk.cell 10
 have c11:=hs3.tak.blk.cell 11
 simp only [Tak.cells,List.getElem?_cons_zero,List.getElem?_cons_succ] at c10 c11
 have f10:=hs3.tak.blk.free 10
 have f11:=hs3.tak.blk.free 11
 have hxx:((x.toNat:Nat):Int)=x:=by omega
 have HF:=Lib.hid ((hs3.put (g':= { g with d:=x.toNat }) 11 (.int .i64 x) (by simp only [Tak.cells,hxx];rfl) rfl rfl).put (g':= { g with d:=x.toNat,pc:=8 }) 10 (.int .i64 8) rfl rfl rfl);clear hs3 hxx
 go_wp2_with fail
 rw [Exit.noGoto_ret]
 go_ret2
 exact ⟨rfl,w1,HW.out,HF.out.to⟩
end
end Go.Proofs.YtaaffebnajjfhaaGreatDoor.T
