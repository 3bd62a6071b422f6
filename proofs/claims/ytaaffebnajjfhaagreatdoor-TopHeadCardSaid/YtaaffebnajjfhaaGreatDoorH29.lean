/- Texts of this proof, merged: Brd9. -/
import Derived.Test.YtaaffebnajjfhaaGreatDoorH26
namespace Go.Proofs.YtaaffebnajjfhaaGreatDoor.T
set_option linter.unusedVariables false
set_option linter.unusedSimpArgs false
set_option linter.unusedSectionVars false
open Go.RowKit
def evV (x:Ev) (lv:Value) (o v:Int):Value:= .agg #[.int .i64 x.kind, .int .i64 x.core, .int .i64 x.peer, .int .i64 x.handle,lv, .int .i64 o, .int .i64 v]
def evCells (x:Ev) (lv:Value) (o v:Int):List Value:= [.int .i64 x.kind, .int .i64 x.core, .int .i64 x.peer, .int .i64 x.handle,lv, .int .i64 o, .int .i64 v]
section
variable {w:World} {Y:Lay} {b:Bd} {x:Ev} {lv:Value} {o v:Int}
theorem ev_box (x:Ev) (lv:Value) (o v:Int) (h:BdAt w Y b):∃w1,w1=w.alloc (.cells #[.int .i64 x.kind, .int .i64 x.core, .int .i64 x.peer, .int .i64 x.handle,lv, .int .i64 o, .int .i64 v] 33)∧Below w.heap.size w w1∧Blk w1 w.heap.size 33 (evCells x lv o v)∧BdAt w1 Y b:=
 ⟨_,rfl,(Below.refl _ _).alloc (Nat.le_refl _) _,Blk.new _ _ _,h.fresh ((Below.refl _ _).alloc (Nat.le_refl _) _)⟩
set_option maxRecDepth 100000 in
theorem bCall_no1 (hh: ¬b.has x.core) (h:BdAt w Y b):
  Calls Tryz.prog 24 #[ptr Y.bd,evV x lv o v] w fun e w'=>e= .returned (.int .i64 3)∧BdTo w Y b b w':=by
 obtain ⟨w1,hw1,hb1,he1,h1⟩:=ev_box x lv o v h
 have HW:=Lib.hid hw1
 have ev0:=he1.cell 0
 have ev1:=he1.cell 1
 have ev2:=he1.cell 2
 have ev3:=he1.cell 3
 have ev4:=he1.cell 4
 simp only [evCells,List.getElem?_cons_zero,List.getElem?_cons_succ] at ev0 ev1 ev2 ev3 ev4
 have c4:=h1.board.cell 4
 simp only [List.getElem?_cons_zero,List.getElem?_cons_succ] at c4
 have hH:=bHas_any x.core h1
 rw [decide_eq_false hh] at hH
 have HH:=Lib.hid hH
 have HT:=Lib.hid (((BdTo.refl h).fresh hb1))
 have HT2:=Lib.hid (((BdTo.refl h).fresh hb1.drew))
 obtain ⟨kind,core,peer,hd,load⟩:=x
 clear hw1 hb1 he1 h1 h hH hh c4
 unfold ptr evV at *
 go_enter Tryz.func24,Tryz.ntmps24
 go_wp2_with fail
 rw [←HW.out]
 refine HH.out.mono ?_
 rintro e w' ⟨rfl,rfl⟩
 go_wp2_with fail
 go_ret
 exact ⟨rfl,HT.out⟩
set_option maxRecDepth 100000 in
theorem bCall_no2 (hh:b.has x.core) (hh2: ¬b.has x.peer) (h:BdAt w Y b):
  Calls Tryz.prog 24 #[ptr Y.bd,evV x lv o v] w fun e w'=>e= .returned (.int .i64 3)∧BdTo w Y b b w':=by
 obtain ⟨w1,hw1,hb1,he1,h1⟩:=ev_box x lv o v h
 have HW:=Lib.hid hw1
 have ev0:=he1.cell 0
 have ev1:=he1.cell 1
 have ev2:=he1.cell 2
 have ev3:=he1.cell 3
 have ev4:=he1.cell 4
 simp only [evCells,List.getElem?_cons_zero,List.getElem?_cons_succ] at ev0 ev1 ev2 ev3 ev4
 have c4:=h1.board.cell 4
 simp only [List.getElem?_cons_zero,List.getElem?_cons_succ] at c4
 have hH:=bHas_any x.core h1
 rw [decide_eq_true hh] at hH
 have HH:=Lib.hid hH
 have hP:=bHas_any x.peer h1
 rw [decide_eq_false hh2] at hP
 have HP:=Lib.hid hP
 have HT:=Lib.hid (((BdTo.refl h).fresh hb1))
 have HT2:=Lib.hid (((BdTo.refl h).fresh hb1.drew))
 obtain ⟨kind,core,peer,hd,load⟩:=x
 clear hw1 hb1 he1 h1 h hH hP hh hh2 c4
 unfold ptr evV at *
 go_enter Tryz.func24,Tryz.ntmps24
 go_wp2_with fail
 rw [←HW.out]
 refine HH.out.mono ?_
 rintro e w' ⟨rfl,rfl⟩
 go_wp2_with fail
 refine HP.out.mono ?_
 rintro e w' ⟨rfl,rfl⟩
 go_wp2_with fail
 go_ret
 exact ⟨rfl,HT.out⟩
set_option maxRecDepth 100000 in
theorem bCall_down (hh:b.has x.core) (hh2:b.has x.peer) (hu: ¬b.up x.core.toNat) (h:BdAt w Y b):
  Calls Tryz.prog 24 #[ptr Y.bd,evV x lv o v] w fun e w'=>e= .returned (.int .i64 19)∧BdTo w Y b b w':=by
 obtain ⟨w1,hw1,hb1,he1,h1⟩:=ev_box x lv o v h
 have HW:=Lib.hid hw1
 have ev0:=he1.cell 0
 have ev1:=he1.cell 1
 have ev2:=he1.cell 2
 have ev3:=he1.cell 3
 have ev4:=he1.cell 4
 simp only [evCells,List.getElem?_cons_zero,List.getElem?_cons_succ] at ev0 ev1 ev2 ev3 ev4
 have c4:=h1.board.cell 4
 simp only [List.getElem?_cons_zero,List.getElem?_cons_succ] at c4
 have hH:=bHas_any x.core h1
 rw [decide_eq_true hh] at hH
 have HH:=Lib.hid hH
 have hP:=bHas_any x.peer h1
 rw [decide_eq_true hh2] at hP
 have HP:=Lib.hid hP
 have hR:=bReady_any x.core h1
 have hr:b.readyR x.core=19:=by unfold Bd.readyR;rw [if_pos hh,if_neg hu]
 rw [hr] at hR
 have HR:=Lib.hid hR
 obtain ⟨hc0,hc1⟩:=hh
 have HT:=Lib.hid (((BdTo.refl h).fresh hb1))
 have HT2:=Lib.hid (((BdTo.refl h).fresh hb1.drew))
 obtain ⟨kind,core,peer,hd,load⟩:=x
 simp only at hc0 hc1
 clear hw1 hb1 he1 h1 h hH hP hR hr hh2 hu
 unfold ptr evV at *
 go_enter Tryz.func24,Tryz.ntmps24
 go_wp2_with fail
 rw [←HW.out]
 refine HH.out.mono ?_
 rintro e w' ⟨rfl,rfl⟩
 go_wp2_with fail
 refine HP.out.mono ?_
 rintro e w' ⟨rfl,rfl⟩
 go_wp2_with fail
 refine HR.out.mono ?_
 rintro e w' ⟨rfl,rfl⟩
 go_wp2_with fail
 go_region
 go_wp2_with fail
 go_ret
 exact ⟨rfl,HT2.out⟩
set_option maxRecDepth 100000 in
theorem bCall_self (hh:b.has x.core) (hu:b.up x.core.toNat) (hse:x.core=x.peer) (h:BdAt w Y b):
  Calls Tryz.prog 24 #[ptr Y.bd,evV x lv o v] w fun e w'=>e= .returned (.int .i64 2)∧BdTo w Y b b w':=by
 obtain ⟨w1,hw1,hb1,he1,h1⟩:=ev_box x lv o v h
 have HW:=Lib.hid hw1
 have ev0:=he1.cell 0
 have ev1:=he1.cell 1
 have ev2:=he1.cell 2
 have ev3:=he1.cell 3
 have ev4:=he1.cell 4
 simp only [evCells,List.getElem?_cons_zero,List.getElem?_cons_succ] at ev0 ev1 ev2 ev3 ev4
 have c4:=h1.board.cell 4
 simp only [List.getElem?_cons_zero,List.getElem?_cons_succ] at c4
 have hH:=bHas_any x.core h1
 rw [decide_eq_true hh] at hH
 have HH:=Lib.hid hH
 have hR:=bReady_any x.core h1
 have hr:b.readyR x.core=0:=by unfold Bd.readyR;rw [if_pos hh,if_pos hu]
 rw [hr] at hR
 have HR:=Lib.hid hR
 obtain ⟨hc0,hc1⟩:=hh
 have HT:=Lib.hid (((BdTo.refl h).fresh hb1))
 have HT2:=Lib.hid (((BdTo.refl h).fresh hb1.drew))
 obtain ⟨kind,core,peer,hd,load⟩:=x
 simp only at hc0 hc1 hse
 subst hse
 clear hw1 hb1 he1 h1 h hH hR hr hu
 unfold ptr evV at *
 go_enter Tryz.func24,Tryz.ntmps24
 go_wp2_with fail
 rw [←HW.out]
 refine HH.out.mono ?_
 rintro e w' ⟨rfl,rfl⟩
 go_wp2_with fail
 refine HH.out.mono ?_
 rintro e w' ⟨rfl,rfl⟩
 go_wp2_with fail
 refine HR.out.mono ?_
 rintro e w' ⟨rfl,rfl⟩
 go_wp2_with fail
 go_region
 go_wp2_with fail
 go_ret
 exact ⟨rfl,HT2.out⟩
theorem runV_some (Y:Lay) (c:Nat) (r:Run):∃t pb,runV Y c (some r)= .iface t (.pointer (some ⟨pb,0,none⟩)):=by
 cases r<;>exact ⟨_,_,rfl⟩
set_option maxRecDepth 100000 in
theorem bCall_busy (hh:b.has x.core) (hh2:b.has x.peer) (hu:b.up x.core.toNat) (hse:x.core≠x.peer) {r:Run} (hr1:(b.cor x.core.toNat).runs=some r) (h:BdAt w Y b):
  Calls Tryz.prog 24 #[ptr Y.bd,evV x lv o v] w fun e w'=>e= .returned (.int .i64 11)∧BdTo w Y b b w':=by
 obtain ⟨w1,hw1,hb1,he1,h1⟩:=ev_box x lv o v h
 have HW:=Lib.hid hw1
 have ev0:=he1.cell 0
 have ev1:=he1.cell 1
 have ev2:=he1.cell 2
 have ev3:=he1.cell 3
 have ev4:=he1.cell 4
 simp only [evCells,List.getElem?_cons_zero,List.getElem?_cons_succ] at ev0 ev1 ev2 ev3 ev4
 have c4:=h1.board.cell 4
 simp only [List.getElem?_cons_zero,List.getElem?_cons_succ] at c4
 have hH:=bHas_any x.core h1
 rw [decide_eq_true hh] at hH
 have HH:=Lib.hid hH
 have hP:=bHas_any x.peer h1
 rw [decide_eq_true hh2] at hP
 have HP:=Lib.hid hP
 have hR:=bReady_any x.core h1
 have hr:b.readyR x.core=0:=by unfold Bd.readyR;rw [if_pos hh,if_pos hu]
 rw [hr] at hR
 have HR:=Lib.hid hR
 have hcr:=h1.runCells (show x.core.toNat<b.n by have:=hh.1;have:=hh.2;omega)
 rw [hr1] at hcr
 have cr:w1.cell? ⟨Y.cg,x.core.toNat*4+2,none⟩=some (runV Y x.core.toNat (some r)):=hcr.1
 obtain ⟨hc0,hc1⟩:=hh
 have HT:=Lib.hid (((BdTo.refl h).fresh hb1))
 have HT2:=Lib.hid (((BdTo.refl h).fresh hb1.drew))
 obtain ⟨kind,core,peer,hd,load⟩:=x
 simp only at hc0 hc1 hse cr
 obtain ⟨cn,rfl⟩:=Int.eq_ofNat_of_zero_le hc0
 simp only [Int.toNat_natCast] at cr
 obtain ⟨t,pb,hrv⟩:=runV_some Y cn r
 rw [hrv] at cr
 have hin:=ifc_nne t pb
 clear hrv
 clear hw1 hb1 he1 h1 h hH hP hR hr hu hr1 hcr hh2
 unfold ptr evV at *
 go_enter Tryz.func24,Tryz.ntmps24
 go_wp2_with fail
 rw [←HW.out]
 refine HH.out.mono ?_
 rintro e w' ⟨rfl,rfl⟩
 go_wp2_with fail
 refine HP.out.mono ?_
 rintro e w' ⟨rfl,rfl⟩
 go_wp2_with fail
 refine HR.out.mono ?_
 rintro e w' ⟨rfl,rfl⟩
 go_wp2_with fail
 go_region
 go_wp2_with fail
 go_ret
 exact ⟨rfl,HT2.out⟩
end
end Go.Proofs.YtaaffebnajjfhaaGreatDoor.T
