/- Texts of this proof, merged: Brd15, Brd17, Brd18, Brd20, Brd21, New6, New7, New8, Run1, Run2, Dia1, Dia2. -/
import Derived.Test.YtaaffebnajjfhaaGreatDoorH32
import Derived.Test.YtaaffebnajjfhaaGreatDoorH31
import Derived.Test.YtaaffebnajjfhaaGreatDoorH39
import Derived.Test.YtaaffebnajjfhaaGreatDoorH28
import Derived.Test.YtaaffebnajjfhaaGreatDoorH37
import Derived.Test.YtaaffebnajjfhaaGreatDoorH38
namespace Go.Proofs.YtaaffebnajjfhaaGreatDoor.T
set_option linter.unusedVariables false
set_option linter.unusedSimpArgs false
set_option linter.unusedSectionVars false
open Go.RowKit
section
variable {w:World} {Y:Lay} {b:Bd} {x:Ev} {lv:Value} {o v:Int}
theorem bCall_any {P:Nat→List Rec} {C:Nat→Option Rec} (hI:BI b P C) (hk:3≤x.kind∧x.kind≤5) (hD:b.diary.length≤100000) (hlen:x.load.length≤1000) (hl:ReadI w lv x.load) (hlv:∀k,lv.ownBlock=some k→0<x.load.length→ ¬BdF Y b k) (h:BdAt w Y b):
  Calls Tryz.prog 24 #[ptr Y.bd,evV x lv o v] w fun e w'=>e= .returned (.int .i64 (b.act x).2)∧BdTo w Y b (b.act x).1 w':=by
 have ea:b.act x=if ¬b.has x.core∨ ¬b.has x.peer then (b,3) else if ¬b.up x.core.toNat then (b,19) else if x.core=x.peer then (b,2)
   else if (b.cor x.core.toNat).runs.isSome=true then (b,11) else b.call x x.core.toNat x.peer.toNat:=by
  unfold Bd.act
  rw [if_neg (by omega),if_neg (by omega),if_pos hk]
 rw [ea]
 by_cases h1:b.has x.core
 ·by_cases h2:b.has x.peer
  ·rw [if_neg (by simp [h1,h2])]
   by_cases h3:b.up x.core.toNat
   ·rw [if_neg (by simp [h3])]
    by_cases h4:x.core=x.peer
    ·rw [if_pos h4]
     exact bCall_self h1 h3 h4 h
    ·rw [if_neg h4]
     cases hr:(b.cor x.core.toNat).runs with
     | some r=>
      rw [if_pos (by rfl)]
      exact bCall_busy h1 h2 h3 h4 hr h
     | none=>
      rw [if_neg (by simp)]
      obtain ⟨c0,c1⟩:=h1
      obtain ⟨p0,p1⟩:=h2
      obtain ⟨c,hc⟩:=Int.eq_ofNat_of_zero_le c0
      obtain ⟨p,hp⟩:=Int.eq_ofNat_of_zero_le p0
      have e1:x.core.toNat=c:=by omega
      have e2:x.peer.toNat=p:=by omega
      rw [e1] at h3 hr
      rw [e1,e2]
      have hcn:c<b.n:=by omega
      have hpn:p<b.n:=by omega
      have hpc:p≠c:=by omega
      have hu:b.upb c=true:=(upb_up b c).2 h3
      have hm:=hI.mach c p hcn hpn hpc hu
      unfold Bd.call
      simp only
      by_cases k3:x.kind=3
      ·rw [if_pos k3]
       by_cases hs:(((b.cor c).giv p).send x.load).2=0
       ·rw [if_neg (by simp [hs])]
        exact bCall_sendOk hc hp k3 hcn hpn hpc hu hr hD hlen hl hlv hs h
       ·rw [if_pos hs]
        exact bCall_sendErr hc hp k3 hcn hpn hpc hu hr hD hlen hl hlv hs h
      ·rw [if_neg k3]
       by_cases k4:x.kind=4
       ·rw [if_pos k4]
        by_cases hs:((b.cor c).tak p).recv.2=0
        ·rw [if_neg (by simp [hs])]
         exact bCall_recvOk hc hp k4 hcn hpn hpc hu hr hD hs h
        ·rw [if_pos hs]
         exact bCall_recvErr hc hp k4 hcn hpn hpc hu hr hD hs h
       ·rw [if_neg k4]
        have k5:x.kind=5:=by omega
        by_cases hs:(((b.cor c).tak p).release x.handle).2=0
        ·rw [if_neg (by simp [hs])]
         exact bCall_releaseOk hc hp k5 hcn hpn hpc hu hr hD hm.tak.tab hs h
        ·rw [if_pos hs]
         exact bCall_releaseErr hc hp k5 hcn hpn hpc hu hr hD hm.tak.tab hs h
   ·rw [if_pos h3]
    exact bCall_down h1 h2 h3 h
  ·rw [if_pos (.inr h2)]
   exact bCall_no2 h1 h2 h
 ·rw [if_pos (.inl h1)]
  exact bCall_no1 h1 h
end
section
variable {w:World} {Y:Lay} {b:Bd} {x:Ev} {lv:Value} {o v:Int}
structure LoadOk (w:World) (Y:Lay) (b:Bd) (lv:Value) (xs:List Int):Prop where
 read:ReadI w lv xs
 len:xs.length≤1000
 own:∀k,lv.ownBlock=some k→0<xs.length→k<w.heap.size∧ ¬BdF Y b k
theorem LoadOk.to_ {w':World} {Y':Lay} {b':Bd} {xs:List Int} (h:LoadOk w Y b lv xs) (hk:Keep (BdF Y b) w w') (hn:∀k,BdF Y' b' k→BdF Y b k∨w.heap.size≤k):LoadOk w' Y' b' lv xs:=by
 refine ⟨h.read.keep hk (fun k q z=>(h.own k q z).2),h.len,fun k q z=>⟨Nat.lt_of_lt_of_le (h.own k q z).1 hk.size,fun r=> ?_⟩⟩
 rcases hn k r with e|e
 ·exact (h.own k q z).2 e
 ·have:=(h.own k q z).1;omega
theorem do_box (x:Ev) (lv:Value) (o v:Int) (h:BdAt w Y b):∃w1 w2 Y2,w1=w.alloc (.cells #[.int .i64 x.kind, .int .i64 x.core, .int .i64 x.peer, .int .i64 x.handle,lv, .int .i64 o, .int .i64 v] 33)∧w2=w1.setCell ⟨Y.bd,6,none⟩ (.int .i64 ((b.now:Int)+1))∧
  w1.cell? ⟨Y.bd,6,none⟩=some (.int .i64 (b.now:Int))∧w1.frozen? ⟨Y.bd,6,none⟩=false∧Blk w2 w.heap.size 33 (evCells x lv o v)∧(Y2.bd=Y.bd∧Y2.cg=Y.cg)∧BdAt w2 Y2 { b with now:=b.now+1 }∧Keep (BdF Y b) w w2∧(∀k,BdF Y2 { b with now:=b.now+1 } k→BdF Y b k∨w.heap.size≤k)∧ ¬BdF Y2 { b with now:=b.now+1 } w.heap.size∧w.heap.size<w2.heap.size:=by
 have hb1:Below w.heap.size w (w.alloc (.cells #[.int .i64 x.kind, .int .i64 x.core, .int .i64 x.peer, .int .i64 x.handle,lv, .int .i64 o, .int .i64 v] 33)):=(Below.refl _ _).alloc (Nat.le_refl _) _
 have he1:Blk (w.alloc (.cells #[.int .i64 x.kind, .int .i64 x.core, .int .i64 x.peer, .int .i64 x.handle,lv, .int .i64 o, .int .i64 v] 33)) w.heap.size 33 (evCells x lv o v):=Blk.new _ _ _
 have h1:=h.fresh hb1
 obtain ⟨Y2,y,h2,k2,n2⟩:=h1.setNow
 have hc6:=h1.board.cell 6
 have hne:w.heap.size≠Y.bd:=he1.ne h1.board (by decide)
 have hnow:((b.now+1:Nat):Int)=(b.now:Int)+1:=by omega
 refine ⟨_,_,Y2,rfl,rfl,hc6,h1.board.free 6,he1.far (p:=⟨Y.bd,6,none⟩) hne _,y,hnow ▸ h2,hnow ▸ ((Keep.ofFresh hb1 (B:=0)).trans' k2),fun k q=> ?_,fun q=> ?_, ?_⟩
 ·rcases n2 k q with e|e
  ·exact .inl e
  ·exact .inr (Nat.le_trans hb1.size e)
 ·rcases n2 _ q with e|e
  ·have:=h.lt _ e;omega
  ·have:=he1.lt;omega
 ·have:=he1.lt
  simp only [World.size_setCell] at *
  exact this
theorem bStep_all {P:Nat→List Rec} {C:Nat→Option Rec} (hI:BI b P C) (hki:x.kind=1) (h:BdAt w Y b):
  Calls Tryz.prog 22 #[ptr Y.bd, .int .i64 x.core] w fun e w'=>e= .returned (.int .i64 (b.act x).2)∧BdTo w Y b (b.act x).1 w':=by
 have ea:b.act x=if ¬b.has x.core then (b,3) else if ¬b.up x.core.toNat then (b,19) else b.step x.core.toNat:=by
  unfold Bd.act
  rw [if_pos hki]
 rw [ea]
 by_cases h1:b.has x.core
 ·rw [if_neg (by simp [h1])]
  by_cases h2:b.up x.core.toNat
  ·rw [if_neg (by simp [h2])]
   have e1:x.core=(x.core.toNat:Int):=by have:=h1.1;omega
   have:=bStep_any hI (c:=x.core.toNat) (by have:=h1.1;have:=h1.2;omega) ((upb_up b _).2 h2) h
   rw [←e1] at this
   exact this
  ·rw [if_pos h2]
   have hr:b.readyR x.core=19:=by unfold Bd.readyR;rw [if_pos h1,if_neg h2]
   refine (bStep_not (by rw [hr];decide) h).mono ?_
   rintro e w' ⟨rfl,rfl⟩
   exact ⟨by rw [hr],BdTo.refl h⟩
 ·rw [if_pos h1]
  have hr:b.readyR x.core=3:=by unfold Bd.readyR;rw [if_neg h1]
  refine (bStep_not (by rw [hr];decide) h).mono ?_
  rintro e w' ⟨rfl,rfl⟩
  exact ⟨by rw [hr],BdTo.refl h⟩
set_option maxRecDepth 100000 in
theorem bDo_step {P:Nat→List Rec} {C:Nat→Option Rec} (hI:BI ({ b with now:=b.now+1 }:Bd) P C) (hN:b.now<50000) (hki:x.kind=1) (h:BdAt w Y b):
  Calls Tryz.prog 8 #[ptr Y.bd,evV x lv o v] w fun e w'=>e= .returned (.int .i64 (b.do_ x).2)∧BdTo w Y b (b.do_ x).1 w':=by
 obtain ⟨w1,w2,Y2,hw1,hw2,c6,f6,he2,⟨ybd,ycg⟩,h2,k2,n2,no2,lt2⟩:=do_box x lv o v h
 have HW1:=Lib.hid hw1
 have HW2:=Lib.hid hw2
 have ev0:=he2.cell 0
 have ev1:=he2.cell 1
 have ev2:=he2.cell 2
 have ev3:=he2.cell 3
 have ev4:=he2.cell 4
 have ev5:=he2.cell 5
 have ev6:=he2.cell 6
 simp only [evCells,List.getElem?_cons_zero,List.getElem?_cons_succ] at ev0 ev1 ev2 ev3 ev4 ev5 ev6
 have HS:=Lib.hid (And.intro k2 n2)
 have hC:=bStep_all hI hki h2
 rw [ybd] at hC
 have HY:=Lib.hid ycg
 have HC:=Lib.hid hC
 show Calls Tryz.prog 8 #[ptr Y.bd,evV x lv o v] w fun e w'=>e= .returned (.int .i64 (({ b with now:=b.now+1 }:Bd).act x).2)∧BdTo w Y b (({ b with now:=b.now+1 }:Bd).act x).1 w'
 generalize ({ b with now:=b.now+1 }:Bd).act x=r at *
 have HW:=Lib.hid (World.block_lt_of_cell? w1 _ c6)
 have hnow:(b.now:Int)<100000:=by omega
 obtain ⟨kind,core,peer,hd,load⟩:=x
 simp only at hki HC
 subst hki
 clear hw1 hw2 he2 h2 k2 n2 no2 lt2 h hN ycg hC hI
 unfold ptr evV at *
 go_enter Tryz.func8,Tryz.ntmps8
 go_upto_region 3 with fail
 rw [←HW1.out]
 go_upto_region 4 with fail
 rw [←HW2.out]
 clear c6 f6
 go_wp2_with fail
 refine HC.out.mono ?_
 rintro e w' ⟨rfl,hT⟩
 have HT:=Lib.hid (BdTo.step ⟨ybd,HY.out⟩ HS.out.1 HS.out.2 hT)
 clear hT HC HS
 go_wp2_with fail
 go_ret
 exact ⟨rfl,HT.out⟩
set_option maxRecDepth 100000 in
theorem bDo_call3 {P:Nat→List Rec} {C:Nat→Option Rec} (hI:BI ({ b with now:=b.now+1 }:Bd) P C) (hN:b.now<50000) (hD:b.diary.length≤100000) (hl:LoadOk w Y b lv x.load) (hki:x.kind=3) (h:BdAt w Y b):
  Calls Tryz.prog 8 #[ptr Y.bd,evV x lv o v] w fun e w'=>e= .returned (.int .i64 (b.do_ x).2)∧BdTo w Y b (b.do_ x).1 w':=by
 obtain ⟨w1,w2,Y2,hw1,hw2,c6,f6,he2,⟨ybd,ycg⟩,h2,k2,n2,no2,lt2⟩:=do_box x lv o v h
 have HW1:=Lib.hid hw1
 have HW2:=Lib.hid hw2
 have ev0:=he2.cell 0
 have ev1:=he2.cell 1
 have ev2:=he2.cell 2
 have ev3:=he2.cell 3
 have ev4:=he2.cell 4
 have ev5:=he2.cell 5
 have ev6:=he2.cell 6
 simp only [evCells,List.getElem?_cons_zero,List.getElem?_cons_succ] at ev0 ev1 ev2 ev3 ev4 ev5 ev6
 have HS:=Lib.hid (And.intro k2 n2)
 have hl2:=hl.to_ k2 n2
 have hC:=bCall_any (o:=o) (v:=v) hI (by omega) hD hl2.len hl2.read (fun k q z=>(hl2.own k q z).2) h2
 rw [ybd] at hC
 have HY:=Lib.hid ycg
 have HC:=Lib.hid hC
 show Calls Tryz.prog 8 #[ptr Y.bd,evV x lv o v] w fun e w'=>e= .returned (.int .i64 (({ b with now:=b.now+1 }:Bd).act x).2)∧BdTo w Y b (({ b with now:=b.now+1 }:Bd).act x).1 w'
 generalize ({ b with now:=b.now+1 }:Bd).act x=r at *
 have HW:=Lib.hid (World.block_lt_of_cell? w1 _ c6)
 have hnow:(b.now:Int)<100000:=by omega
 obtain ⟨kind,core,peer,hd,load⟩:=x
 simp only [evV,ptr] at hki HC
 subst hki
 clear hw1 hw2 he2 h2 k2 n2 no2 lt2 h hN ycg hC hI hl hl2 hD
 unfold ptr evV at *
 go_enter Tryz.func8,Tryz.ntmps8
 go_upto_region 3 with fail
 rw [←HW1.out]
 go_upto_region 4 with fail
 rw [←HW2.out]
 clear c6 f6
 go_wp2_with fail
 refine HC.out.mono ?_
 rintro e w' ⟨rfl,hT⟩
 have HT:=Lib.hid (BdTo.step ⟨ybd,HY.out⟩ HS.out.1 HS.out.2 hT)
 clear hT HC HS
 go_wp2_with fail
 go_ret
 exact ⟨rfl,HT.out⟩
set_option maxRecDepth 100000 in
theorem bDo_call4 {P:Nat→List Rec} {C:Nat→Option Rec} (hI:BI ({ b with now:=b.now+1 }:Bd) P C) (hN:b.now<50000) (hD:b.diary.length≤100000) (hl:LoadOk w Y b lv x.load) (hki:x.kind=4) (h:BdAt w Y b):
  Calls Tryz.prog 8 #[ptr Y.bd,evV x lv o v] w fun e w'=>e= .returned (.int .i64 (b.do_ x).2)∧BdTo w Y b (b.do_ x).1 w':=by
 obtain ⟨w1,w2,Y2,hw1,hw2,c6,f6,he2,⟨ybd,ycg⟩,h2,k2,n2,no2,lt2⟩:=do_box x lv o v h
 have HW1:=Lib.hid hw1
 have HW2:=Lib.hid hw2
 have ev0:=he2.cell 0
 have ev1:=he2.cell 1
 have ev2:=he2.cell 2
 have ev3:=he2.cell 3
 have ev4:=he2.cell 4
 have ev5:=he2.cell 5
 have ev6:=he2.cell 6
 simp only [evCells,List.getElem?_cons_zero,List.getElem?_cons_succ] at ev0 ev1 ev2 ev3 ev4 ev5 ev6
 have HS:=Lib.hid (And.intro k2 n2)
 have hl2:=hl.to_ k2 n2
 have hC:=bCall_any (o:=o) (v:=v) hI (by omega) hD hl2.len hl2.read (fun k q z=>(hl2.own k q z).2) h2
 rw [ybd] at hC
 have HY:=Lib.hid ycg
 have HC:=Lib.hid hC
 show Calls Tryz.prog 8 #[ptr Y.bd,evV x lv o v] w fun e w'=>e= .returned (.int .i64 (({ b with now:=b.now+1 }:Bd).act x).2)∧BdTo w Y b (({ b with now:=b.now+1 }:Bd).act x).1 w'
 generalize ({ b with now:=b.now+1 }:Bd).act x=r at *
 have HW:=Lib.hid (World.block_lt_of_cell? w1 _ c6)
 have hnow:(b.now:Int)<100000:=by omega
 obtain ⟨kind,core,peer,hd,load⟩:=x
 simp only [evV,ptr] at hki HC
 subst hki
 clear hw1 hw2 he2 h2 k2 n2 no2 lt2 h hN ycg hC hI hl hl2 hD
 unfold ptr evV at *
 go_enter Tryz.func8,Tryz.ntmps8
 go_upto_region 3 with fail
 rw [←HW1.out]
 go_upto_region 4 with fail
 rw [←HW2.out]
 clear c6 f6
 go_wp2_with fail
 refine HC.out.mono ?_
 rintro e w' ⟨rfl,hT⟩
 have HT:=Lib.hid (BdTo.step ⟨ybd,HY.out⟩ HS.out.1 HS.out.2 hT)
 clear hT HC HS
 go_wp2_with fail
 go_ret
 exact ⟨rfl,HT.out⟩
set_option maxRecDepth 100000 in
theorem bDo_call5 {P:Nat→List Rec} {C:Nat→Option Rec} (hI:BI ({ b with now:=b.now+1 }:Bd) P C) (hN:b.now<50000) (hD:b.diary.length≤100000) (hl:LoadOk w Y b lv x.load) (hki:x.kind=5) (h:BdAt w Y b):
  Calls Tryz.prog 8 #[ptr Y.bd,evV x lv o v] w fun e w'=>e= .returned (.int .i64 (b.do_ x).2)∧BdTo w Y b (b.do_ x).1 w':=by
 obtain ⟨w1,w2,Y2,hw1,hw2,c6,f6,he2,⟨ybd,ycg⟩,h2,k2,n2,no2,lt2⟩:=do_box x lv o v h
 have HW1:=Lib.hid hw1
 have HW2:=Lib.hid hw2
 have ev0:=he2.cell 0
 have ev1:=he2.cell 1
 have ev2:=he2.cell 2
 have ev3:=he2.cell 3
 have ev4:=he2.cell 4
 have ev5:=he2.cell 5
 have ev6:=he2.cell 6
 simp only [evCells,List.getElem?_cons_zero,List.getElem?_cons_succ] at ev0 ev1 ev2 ev3 ev4 ev5 ev6
 have HS:=Lib.hid (And.intro k2 n2)
 have hl2:=hl.to_ k2 n2
 have hC:=bCall_any (o:=o) (v:=v) hI (by omega) hD hl2.len hl2.read (fun k q z=>(hl2.own k q z).2) h2
 rw [ybd] at hC
 have HY:=Lib.hid ycg
 have HC:=Lib.hid hC
 show Calls Tryz.prog 8 #[ptr Y.bd,evV x lv o v] w fun e w'=>e= .returned (.int .i64 (({ b with now:=b.now+1 }:Bd).act x).2)∧BdTo w Y b (({ b with now:=b.now+1 }:Bd).act x).1 w'
 generalize ({ b with now:=b.now+1 }:Bd).act x=r at *
 have HW:=Lib.hid (World.block_lt_of_cell? w1 _ c6)
 have hnow:(b.now:Int)<100000:=by omega
 obtain ⟨kind,core,peer,hd,load⟩:=x
 simp only [evV,ptr] at hki HC
 subst hki
 clear hw1 hw2 he2 h2 k2 n2 no2 lt2 h hN ycg hC hI hl hl2 hD
 unfold ptr evV at *
 go_enter Tryz.func8,Tryz.ntmps8
 go_upto_region 3 with fail
 rw [←HW1.out]
 go_upto_region 4 with fail
 rw [←HW2.out]
 clear c6 f6
 go_wp2_with fail
 refine HC.out.mono ?_
 rintro e w' ⟨rfl,hT⟩
 have HT:=Lib.hid (BdTo.step ⟨ybd,HY.out⟩ HS.out.1 HS.out.2 hT)
 clear hT HC HS
 go_wp2_with fail
 go_ret
 exact ⟨rfl,HT.out⟩
set_option maxRecDepth 100000 in
theorem bDo_other (hN:b.now<50000) (hki:x.kind<1∨8<x.kind) (h:BdAt w Y b):
  Calls Tryz.prog 8 #[ptr Y.bd,evV x lv o v] w fun e w'=>e= .returned (.int .i64 (b.do_ x).2)∧BdTo w Y b (b.do_ x).1 w':=by
 obtain ⟨w1,w2,Y2,hw1,hw2,c6,f6,he2,⟨ybd,ycg⟩,h2,k2,n2,no2,lt2⟩:=do_box x lv o v h
 have HW1:=Lib.hid hw1
 have HW2:=Lib.hid hw2
 have ev0:=he2.cell 0
 have ev1:=he2.cell 1
 have ev2:=he2.cell 2
 have ev3:=he2.cell 3
 have ev4:=he2.cell 4
 have ev5:=he2.cell 5
 have ev6:=he2.cell 6
 simp only [evCells,List.getElem?_cons_zero,List.getElem?_cons_succ] at ev0 ev1 ev2 ev3 ev4 ev5 ev6
 have HS:=Lib.hid (And.intro k2 n2)
 have ea:({ b with now:=b.now+1 }:Bd).act x=(({ b with now:=b.now+1 }:Bd),2):=by
  unfold Bd.act
  rw [if_neg (by omega),if_neg (by omega),if_neg (by omega),if_neg (by omega),if_neg (by omega)]
 show Calls Tryz.prog 8 #[ptr Y.bd,evV x lv o v] w fun e w'=>e= .returned (.int .i64 (({ b with now:=b.now+1 }:Bd).act x).2)∧BdTo w Y b (({ b with now:=b.now+1 }:Bd).act x).1 w'
 rw [ea]
 have HC:=Lib.hid (BdTo.step ⟨ybd,ycg⟩ k2 n2 (BdTo.refl h2))
 have n1:(x.kind == 1)=false:=by rw [beq_eq_false_iff_ne];omega
 have n3:(x.kind == 3)=false:=by rw [beq_eq_false_iff_ne];omega
 have n4:(x.kind == 4)=false:=by rw [beq_eq_false_iff_ne];omega
 have n5:(x.kind == 5)=false:=by rw [beq_eq_false_iff_ne];omega
 have n6:(x.kind == 6)=false:=by rw [beq_eq_false_iff_ne];omega
 have n7:(x.kind == 7)=false:=by rw [beq_eq_false_iff_ne];omega
 have n8:(x.kind == 8)=false:=by rw [beq_eq_false_iff_ne];omega
 have n9:(x.kind == 2)=false:=by rw [beq_eq_false_iff_ne];omega
 have HW:=Lib.hid (World.block_lt_of_cell? w1 _ c6)
 have hnow:(b.now:Int)<100000:=by omega
 obtain ⟨kind,core,peer,hd,load⟩:=x
 simp only at hki n1 n3 n4 n5 n6 n7 n8 n9
 clear hw1 hw2 he2 h2 k2 n2 no2 lt2 h hN ycg ea HS
 unfold ptr evV at *
 go_enter Tryz.func8,Tryz.ntmps8
 go_upto_region 3 with fail
 rw [←HW1.out]
 go_upto_region 4 with fail
 rw [←HW2.out]
 clear c6 f6
 go_wp2_with fail
 go_ret
 exact ⟨rfl,HC.out⟩
set_option maxRecDepth 100000 in
theorem bDo_drainOut (hN:b.now<50000) (hki:x.kind=2) (hh: ¬b.has x.core) (h:BdAt w Y b):
  Calls Tryz.prog 8 #[ptr Y.bd,evV x lv o v] w fun e w'=>e= .returned (.int .i64 (b.do_ x).2)∧BdTo w Y b (b.do_ x).1 w':=by
 obtain ⟨w1,w2,Y2,hw1,hw2,c6,f6,he2,⟨ybd,ycg⟩,h2,k2,n2,no2,lt2⟩:=do_box x lv o v h
 have HW1:=Lib.hid hw1
 have HW2:=Lib.hid hw2
 have ev0:=he2.cell 0
 have ev1:=he2.cell 1
 have ev2:=he2.cell 2
 have ev3:=he2.cell 3
 have ev4:=he2.cell 4
 have ev5:=he2.cell 5
 have ev6:=he2.cell 6
 simp only [evCells,List.getElem?_cons_zero,List.getElem?_cons_succ] at ev0 ev1 ev2 ev3 ev4 ev5 ev6
 have HS:=Lib.hid (And.intro k2 n2)
 have ea:({ b with now:=b.now+1 }:Bd).act x=(({ b with now:=b.now+1 }:Bd),3):=by
  unfold Bd.act
  rw [if_neg (by omega),if_pos hki,if_pos (show ¬({ b with now:=b.now+1 }:Bd).has x.core from hh)]
 show Calls Tryz.prog 8 #[ptr Y.bd,evV x lv o v] w fun e w'=>e= .returned (.int .i64 (({ b with now:=b.now+1 }:Bd).act x).2)∧BdTo w Y b (({ b with now:=b.now+1 }:Bd).act x).1 w'
 rw [ea]
 have hC:∀u,Below w2.heap.size w2 u→Calls Tryz.prog 23 #[.pointer (some ⟨Y2.S.soc,0,none⟩), .int .i64 x.core] u fun e w'=>e= .returned (.tuple #[.bool false, .int .i64 3])∧BdTo w Y b ({ b with now:=b.now+1 }:Bd) w'∧w'.cell? ⟨Y.bd,3,none⟩=some (.pointer (some ⟨Y2.S.soc,0,none⟩))∧w'.cell? ⟨w.heap.size,1,none⟩=some (.int .i64 x.core):=by
  intro u hu
  refine (socDrain_out Y2.S _ _ _ _ _ _ _ x.core (show x.core<0∨(b.n:Int)≤x.core by have hh': ¬(0≤x.core∧x.core<(b.n:Int)):=hh;omega) u (h2.fresh hu).soc).mono ?_
  rintro e w' ⟨he,hb⟩
  have hb2:=(h2.fresh hu).fresh hb
  have q3:=hb2.board.cell 3
  rw [ybd] at q3
  have q1:=(he2.keep (Keep.ofFresh hu (B:=0) (F:=fun _=>False)) (fun q=>q)).keep (Keep.ofFresh hb (B:=0) (F:=fun _=>False)) (fun q=>q)
  exact ⟨he,BdTo.step ⟨ybd,ycg⟩ k2 n2 (((BdTo.refl h2).fresh hu).fresh hb),q3,q1.cell 1⟩
 have HC:=Lib.hid hC
 have c3:=h2.board.cell 3
 rw [ybd] at c3
 simp only [List.getElem?_cons_zero,List.getElem?_cons_succ,ptr] at c3
 have HW:=Lib.hid (World.block_lt_of_cell? w1 _ c6)
 have hnow:(b.now:Int)<100000:=by omega
 obtain ⟨kind,core,peer,hd,load⟩:=x
 simp only at hki HC
 subst hki
 clear hw1 hw2 he2 h2 k2 n2 no2 lt2 h hN ycg ea hh hC HS
 unfold ptr evV at *
 go_enter Tryz.func8,Tryz.ntmps8
 go_upto_region 3 with fail
 rw [←HW1.out]
 go_upto_region 4 with fail
 rw [←HW2.out]
 clear c6 f6
 go_wp2_with fail
 have hS:w2.cell? ⟨Y.bd,3,none⟩=some (.pointer (some ⟨Y2.S.soc,0,none⟩))∧w2.cell? ⟨w.heap.size,1,none⟩=some (.int .i64 core):=⟨c3,ev1⟩
 go_region_held3 (fun u=>u.cell? ⟨Y.bd,3,none⟩=some (.pointer (some ⟨Y2.S.soc,0,none⟩))∧u.cell? ⟨w.heap.size,1,none⟩=some (.int .i64 core)) (first|exact hS|assumption) (first|(go_at_call 23;refine (HC.out _ (by first|exact Below.refl _ _|exact (Below.refl _ _).drew)).mono ?_;rintro e w' ⟨rfl,HT,hS3⟩;have HT:=Lib.hid HT))
 go_wp2_with fail
 go_ret
 exact ⟨rfl,HT.out⟩
set_option maxRecDepth 100000 in
theorem bDo_drainIn (hN:b.now<50000) (hki:x.kind=2) (hh:b.has x.core) (h:BdAt w Y b):
  Calls Tryz.prog 8 #[ptr Y.bd,evV x lv o v] w fun e w'=>e= .returned (.int .i64 (b.do_ x).2)∧BdTo w Y b (b.do_ x).1 w':=by
 obtain ⟨w1,w2,Y2,hw1,hw2,c6,f6,he2,⟨ybd,ycg⟩,h2,k2,n2,no2,lt2⟩:=do_box x lv o v h
 have HW1:=Lib.hid hw1
 have HW2:=Lib.hid hw2
 have ev0:=he2.cell 0
 have ev1:=he2.cell 1
 have ev2:=he2.cell 2
 have ev3:=he2.cell 3
 have ev4:=he2.cell 4
 have ev5:=he2.cell 5
 have ev6:=he2.cell 6
 simp only [evCells,List.getElem?_cons_zero,List.getElem?_cons_succ] at ev0 ev1 ev2 ev3 ev4 ev5 ev6
 have HS:=Lib.hid (And.intro k2 n2)
 have ea:({ b with now:=b.now+1 }:Bd).act x=(({ b with now:=b.now+1 }:Bd).setSc { ({ b with now:=b.now+1 }:Bd).sc with m:=drM b.sc.m (b.sc.q x.core.toNat),q:=upd b.sc.q x.core.toNat (b.sc.q x.core.toNat).tail },0):=by
  unfold Bd.act
  rw [if_neg (by omega),if_pos hki,if_neg (show ¬ ¬({ b with now:=b.now+1 }:Bd).has x.core from fun q=>q hh)]
 show Calls Tryz.prog 8 #[ptr Y.bd,evV x lv o v] w fun e w'=>e= .returned (.int .i64 (({ b with now:=b.now+1 }:Bd).act x).2)∧BdTo w Y b (({ b with now:=b.now+1 }:Bd).act x).1 w'
 rw [ea]
 generalize hb3:({ b with now:=b.now+1 }:Bd).setSc { ({ b with now:=b.now+1 }:Bd).sc with m:=drM b.sc.m (b.sc.q x.core.toNat),q:=upd b.sc.q x.core.toNat (b.sc.q x.core.toNat).tail }=b3
 have hC:∀u,Below w2.heap.size w2 u→Calls Tryz.prog 23 #[.pointer (some ⟨Y2.S.soc,0,none⟩), .int .i64 x.core] u fun e w'=>e= .returned (.tuple #[.bool (!(b.sc.q x.core.toNat).isEmpty), .int .i64 0])∧BdTo w Y b b3 w'∧w'.cell? ⟨Y.bd,3,none⟩=some (.pointer (some ⟨Y2.S.soc,0,none⟩))∧w'.cell? ⟨w.heap.size,1,none⟩=some (.int .i64 x.core):=by
  intro u hu
  have e1:x.core=(x.core.toNat:Int):=by have:=hh.1;omega
  rw [e1]
  refine (socDrain_in Y2.S _ _ _ _ _ _ _ x.core.toNat (by have:=hh.1;have:=hh.2;show x.core.toNat<b.n;omega) u (h2.fresh hu).soc).mono ?_
  rintro e w' ⟨he,hb⟩
  rw [Int.toNat_natCast]
  have h3:=BdTo.from_ hu ((h2.fresh hu).socOn hb)
  rw [←hb3]
  obtain ⟨vs',_,kb,_⟩:=hb
  obtain ⟨tag,ow⟩:=h2.own
  have q3:=((h2.fresh hu).board.keep kb (fun r=>by
   have e1:=ow.soc _ (.inr (.inr (.inr (.inr (.inr r)))))
   rw [ow.brd _ (.inl rfl)] at e1
   cases e1)).cell 3
  rw [ybd] at q3
  have q1:=(he2.keep (Keep.ofFresh hu (B:=0) (F:=fun _=>False)) (fun q=>q)).keep kb (fun r=>no2 (.inl (.inr (.inr (.inr (.inr (.inr r)))))))
  exact ⟨he,BdTo.step ⟨ybd,ycg⟩ k2 n2 h3,q3,by rw [q1.cell 1];show some (Value.int .i64 x.core)=some (Value.int .i64 (x.core.toNat:Int));rw [←e1]⟩
 generalize (!(b.sc.q x.core.toNat).isEmpty)=bb at *
 have HC:=Lib.hid hC
 have c3:=h2.board.cell 3
 rw [ybd] at c3
 simp only [List.getElem?_cons_zero,List.getElem?_cons_succ,ptr] at c3
 have HW:=Lib.hid (World.block_lt_of_cell? w1 _ c6)
 have hnow:(b.now:Int)<100000:=by omega
 obtain ⟨kind,core,peer,hd,load⟩:=x
 simp only at hki HC
 subst hki
 clear hw1 hw2 he2 h2 k2 n2 no2 lt2 h hN ycg ea hh hC HS hb3
 unfold ptr evV at *
 go_enter Tryz.func8,Tryz.ntmps8
 go_upto_region 3 with fail
 rw [←HW1.out]
 go_upto_region 4 with fail
 rw [←HW2.out]
 clear c6 f6
 go_wp2_with fail
 have hS:w2.cell? ⟨Y.bd,3,none⟩=some (.pointer (some ⟨Y2.S.soc,0,none⟩))∧w2.cell? ⟨w.heap.size,1,none⟩=some (.int .i64 core):=⟨c3,ev1⟩
 go_region_held3 (fun u=>u.cell? ⟨Y.bd,3,none⟩=some (.pointer (some ⟨Y2.S.soc,0,none⟩))∧u.cell? ⟨w.heap.size,1,none⟩=some (.int .i64 core)) (first|exact hS|assumption) (first|(go_at_call 23;refine (HC.out _ (by first|exact Below.refl _ _|exact (Below.refl _ _).drew)).mono ?_;rintro e w' ⟨rfl,HT,hS3⟩;have HT:=Lib.hid HT))
 go_wp2_with fail
 go_ret
 exact ⟨rfl,HT.out⟩
end
section
variable {w:World} {Y:Lay} {b:Bd} {x:Ev} {lv:Value} {o v:Int}
set_option maxRecDepth 100000 in
theorem bDo_holdNo (hN:b.now<50000) (hki:x.kind=6) (hno:(Gates.holdR b.sc.g x.core).2≠0) (h:BdAt w Y b):
  Calls Tryz.prog 8 #[ptr Y.bd,evV x lv o v] w fun e w'=>e= .returned (.int .i64 (b.do_ x).2)∧BdTo w Y b (b.do_ x).1 w':=by
 obtain ⟨w1,w2,Y2,hw1,hw2,c6,f6,he2,⟨ybd,ycg⟩,h2,k2,n2,no2,lt2⟩:=do_box x lv o v h
 have HW1:=Lib.hid hw1
 have HW2:=Lib.hid hw2
 have ev0:=he2.cell 0
 have ev1:=he2.cell 1
 have ev2:=he2.cell 2
 have ev3:=he2.cell 3
 have ev4:=he2.cell 4
 have ev5:=he2.cell 5
 have ev6:=he2.cell 6
 simp only [evCells,List.getElem?_cons_zero,List.getElem?_cons_succ] at ev0 ev1 ev2 ev3 ev4 ev5 ev6
 have HS:=Lib.hid (And.intro k2 n2)
 have ea:({ b with now:=b.now+1 }:Bd).act x=(({ b with now:=b.now+1 }:Bd),(Gates.holdR b.sc.g x.core).2):=by
  unfold Bd.act
  rw [if_neg (by omega),if_neg (by omega),if_neg (by omega),if_pos hki]
  simp only
  rw [if_pos hno]
 show Calls Tryz.prog 8 #[ptr Y.bd,evV x lv o v] w fun e w'=>e= .returned (.int .i64 (({ b with now:=b.now+1 }:Bd).act x).2)∧BdTo w Y b (({ b with now:=b.now+1 }:Bd).act x).1 w'
 rw [ea]
 have hg:(Gates.holdR b.sc.g x.core).1=b.sc.g:=by
  unfold Gates.holdR at *
  split
  ·split
   ·rfl
   ·rename_i q1 q2
    rw [if_pos q1,if_neg q2] at hno
    exact absurd rfl hno
  ·rfl
 have hC:∀u,Below w2.heap.size w2 u→Calls Tryz.prog 25 #[.pointer (some ⟨Y2.S.soc,0,none⟩), .int .i64 x.core] u fun e w'=>e= .returned (.int .i64 (Gates.holdR b.sc.g x.core).2)∧BdTo w Y b ({ b with now:=b.now+1 }:Bd) w'∧w'.cell? ⟨Y.bd,3,none⟩=some (.pointer (some ⟨Y2.S.soc,0,none⟩))∧w'.cell? ⟨w.heap.size,1,none⟩=some (.int .i64 x.core):=by
  intro u hu
  refine (socHold_no Y2.S _ _ _ _ _ _ _ x.core hno hg u (h2.fresh hu).soc).mono ?_
  rintro e w' ⟨he,hb⟩
  have h3:=BdTo.from_ hu ((h2.fresh hu).socOn hb)
  obtain ⟨vs',_,kb,_⟩:=hb
  obtain ⟨tag,ow⟩:=h2.own
  have q3:=((h2.fresh hu).board.keep kb (fun r=>by
   have e1:=ow.soc _ (.inr (.inr (.inr (.inr (.inr r)))))
   rw [ow.brd _ (.inl rfl)] at e1
   cases e1)).cell 3
  rw [ybd] at q3
  have q1:=(he2.keep (Keep.ofFresh hu (B:=0) (F:=fun _=>False)) (fun q=>q)).keep kb (fun r=>no2 (.inl (.inr (.inr (.inr (.inr (.inr r)))))))
  exact ⟨he,BdTo.step ⟨ybd,ycg⟩ k2 n2 h3,q3,q1.cell 1⟩
 clear hg
 generalize (Gates.holdR b.sc.g x.core).2=er at *
 have HC:=Lib.hid hC
 have n0:(er == 0)=false:=by simpa using hno
 have c3:=h2.board.cell 3
 rw [ybd] at c3
 simp only [List.getElem?_cons_zero,List.getElem?_cons_succ,ptr] at c3
 have HW:=Lib.hid (World.block_lt_of_cell? w1 _ c6)
 have hnow:(b.now:Int)<100000:=by omega
 obtain ⟨kind,core,peer,hd,load⟩:=x
 simp only at hki HC
 subst hki
 clear hw1 hw2 he2 h2 k2 n2 no2 lt2 h hN ycg ea hC HS hno
 unfold ptr evV at *
 go_enter Tryz.func8,Tryz.ntmps8
 go_upto_region 3 with fail
 rw [←HW1.out]
 go_upto_region 4 with fail
 rw [←HW2.out]
 clear c6 f6
 go_wp2_with fail
 have hS:w2.cell? ⟨Y.bd,3,none⟩=some (.pointer (some ⟨Y2.S.soc,0,none⟩))∧w2.cell? ⟨w.heap.size,1,none⟩=some (.int .i64 core):=⟨c3,ev1⟩
 go_region_held3 (fun u=>u.cell? ⟨Y.bd,3,none⟩=some (.pointer (some ⟨Y2.S.soc,0,none⟩))∧u.cell? ⟨w.heap.size,1,none⟩=some (.int .i64 core)) (first|exact hS|assumption) (first|(go_at_call 25;refine (HC.out _ (by first|exact Below.refl _ _|exact (Below.refl _ _).drew)).mono ?_;rintro e w' ⟨rfl,HT,hS3⟩;have HT:=Lib.hid HT))
 go_wp2_with fail
 go_ret
 exact ⟨rfl,HT.out⟩
set_option maxRecDepth 100000 in
theorem bDo_holdYes (hN:b.now<50000) (hki:x.kind=6) {c:Nat} (hcx:x.core=c) (hc:c<b.n) (hu:b.upb c=true) (h:BdAt w Y b):
  Calls Tryz.prog 8 #[ptr Y.bd,evV x lv o v] w fun e w'=>e= .returned (.int .i64 (b.do_ x).2)∧BdTo w Y b (b.do_ x).1 w':=by
 obtain ⟨w1,w2,Y2,hw1,hw2,c6,f6,he2,⟨ybd,ycg⟩,h2,k2,n2,no2,lt2⟩:=do_box x lv o v h
 have HW1:=Lib.hid hw1
 have HW2:=Lib.hid hw2
 have ev0:=he2.cell 0
 have ev1:=he2.cell 1
 have ev2:=he2.cell 2
 have ev3:=he2.cell 3
 have ev4:=he2.cell 4
 have ev5:=he2.cell 5
 have ev6:=he2.cell 6
 simp only [evCells,List.getElem?_cons_zero,List.getElem?_cons_succ] at ev0 ev1 ev2 ev3 ev4 ev5 ev6
 have HS:=Lib.hid (And.intro k2 n2)
 have hui:upAt b.sc.g c:=by have:=(upb_up b c).1 hu;exact this
 have hhc:b.sc.g.cores=b.n:=h2.soc.cores
 have hho:(Gates.holdR b.sc.g x.core)=(b.sc.g.hold c true,0):=by
  unfold Gates.holdR Gates.coreE
  rw [hhc,hcx,if_pos (by rw [if_pos (by omega)]),Int.toNat_natCast,if_neg (by rw [show b.sc.g.held.getD c false=false from hui];simp)]
 have ea:({ b with now:=b.now+1 }:Bd).act x=((({ b with now:=b.now+1 }:Bd).setSc { b.sc with q:=upd b.sc.q c [],g:=b.sc.g.hold c true }).setCor c { b.cor c with runs:=none,entry:=0 },0):=by
  unfold Bd.act
  rw [if_neg (by omega),if_neg (by omega),if_neg (by omega),if_pos hki]
  simp only
  rw [hho]
  simp only
  rw [if_neg (by simp),hcx,Int.toNat_natCast]
 show Calls Tryz.prog 8 #[ptr Y.bd,evV x lv o v] w fun e w'=>e= .returned (.int .i64 (({ b with now:=b.now+1 }:Bd).act x).2)∧BdTo w Y b (({ b with now:=b.now+1 }:Bd).act x).1 w'
 rw [ea]
 have hC:∀u,Below w2.heap.size w2 u→Calls Tryz.prog 25 #[.pointer (some ⟨Y2.S.soc,0,none⟩), .int .i64 (c:Int)] u fun e w'=>e= .returned (.int .i64 0)∧(SocTo u Y2.S b.n (chanWords b.n b.ring) b.most Y2.vs b.sc.m (upd b.sc.q c []) (b.sc.g.hold c true) w'∧Below w2.heap.size w2 u)∧w'.cell? ⟨Y.bd,3,none⟩=some (.pointer (some ⟨Y2.S.soc,0,none⟩))∧w'.cell? ⟨w.heap.size,1,none⟩=some (.int .i64 (c:Int))∧w'.cell? ⟨Y.bd,4,none⟩=some (.slice (some ⟨Y.cg,0,none⟩) b.n Y2.ccap)∧(∀cs,Blk u Y.cg 71 cs→Blk w' Y.cg 71 cs):=by
  intro u hu
  refine (socHold_yes Y2.S _ _ _ _ _ _ _ c hc hui u (h2.fresh hu).soc).mono ?_
  rintro e w' ⟨he,hb⟩
  have hb':=hb
  obtain ⟨vs',_,kb,_⟩:=hb
  obtain ⟨tag,ow⟩:=h2.own
  have hbr:∀k,BrdF Y2 ({ b with now:=b.now+1 }:Bd) k→ ¬SocF Y2.S b.n Y2.vs k:=fun k q r=>by
   have e1:=ow.soc _ (.inr (.inr (.inr (.inr (.inr r)))))
   rw [ow.brd _ q] at e1
   cases e1
  have qb:=(h2.fresh hu).board.keep kb (hbr _ (.inl rfl))
  have q3:=qb.cell 3
  have q4:=qb.cell 4
  rw [ybd] at q3 q4
  rw [ycg] at q4
  have q1:=(he2.keep (Keep.ofFresh hu (B:=0) (F:=fun _=>False)) (fun q=>q)).keep kb (fun r=>no2 (.inl (.inr (.inr (.inr (.inr (.inr r)))))))
  refine ⟨he,⟨hb',hu⟩,q3,by rw [q1.cell 1, ←hcx];rfl,q4,fun cs hcs=>hcs.keep kb ?_⟩
  rw [←ycg]
  exact hbr _ (.inr (.inl rfl))
 have HC:=Lib.hid hC
 have c3:=h2.board.cell 3
 rw [ybd] at c3
 simp only [List.getElem?_cons_zero,List.getElem?_cons_succ,ptr] at c3
 have H2:=Lib.hid h2
 have HY:=Lib.hid ycg
 obtain ⟨cs,hcs,hcc⟩:=h2.cores
 rw [ycg] at hcs
 have hlen:c*4+3<cs.length:=by
  have:=(hcc c hc).2.2.2
  exact (List.getElem?_eq_some_iff.1 this).1
 have HCS:=Lib.hid (And.intro hcs hlen)
 have HU:=Lib.hid hhc
 have HW:=Lib.hid (World.block_lt_of_cell? w1 _ c6)
 have hnow:(b.now:Int)<100000:=by omega
 obtain ⟨kind,core,peer,hd,load⟩:=x
 simp only at hki HC hcx
 subst hcx
 subst hki
 clear hw1 hw2 he2 h2 k2 n2 no2 lt2 h hN ycg ea hC hu hui hhc hho hcs hcc hlen
 unfold ptr evV at *
 go_enter Tryz.func8,Tryz.ntmps8
 go_upto_region 3 with fail
 rw [←HW1.out]
 go_upto_region 4 with fail
 rw [←HW2.out]
 clear c6 f6
 go_wp2_with fail
 have hS:w2.cell? ⟨Y.bd,3,none⟩=some (.pointer (some ⟨Y2.S.soc,0,none⟩))∧w2.cell? ⟨w.heap.size,1,none⟩=some (.int .i64 (c:Int)):=⟨c3,ev1⟩
 go_region_held3 (fun u=>u.cell? ⟨Y.bd,3,none⟩=some (.pointer (some ⟨Y2.S.soc,0,none⟩))∧u.cell? ⟨w.heap.size,1,none⟩=some (.int .i64 (c:Int))) (first|exact hS|assumption) (first|(go_at_call 25;refine (HC.out _ (by first|exact Below.refl _ _|exact (Below.refl _ _).drew)).mono ?_;rintro e w3 ⟨rfl,HT,hq3,hq1,hq4,hqc⟩;have hS3:=And.intro hq3 hq1;have HT:=Lib.hid HT;have HQ:=Lib.hid hqc;clear hqc))
 have hcs3:=HQ.out _ (HCS.out.1.keep (Keep.ofFresh HT.out.2 (B:=0) (F:=fun _=>False)) (fun q=>q))
 have k0:=hcs3.cell (c*4)
 have k1:=hcs3.cell (c*4+1)
 have k2:=hcs3.cell (c*4+2)
 have k3:=hcs3.cell (c*4+3)
 rw [List.getElem?_eq_getElem (by have:=HCS.out.2;omega)] at k0 k1 k2 k3
 have f0:=hcs3.free (c*4)
 have f1:=hcs3.free (c*4+1)
 have f2:=hcs3.free (c*4+2)
 have f3:=hcs3.free (c*4+3)
 have hc0:(0:Int)≤(c:Int):=by omega
 have hc1:(c:Int)<(b.n:Int):=by omega
 have HCS3:=Lib.hid hcs3
 clear hcs3
 go_wp2_with fail
 go_region
 have hg1:∀i,i≠c→(b.sc.g.hold c true).held.getD i false=b.sc.g.held.getD i false:=fun i hi=>by
  unfold Gates.Gt.hold
  simp only [List.getD_eq_getElem?_getD]
  rw [List.getElem?_set_ne (Ne.symm hi)]
 have hg2:(b.sc.g.hold c true).held.getD c false=true:=by
  have hl:b.sc.g.held.length=8:=H2.out.soc.ok.lh
  have hl8:b.sc.g.cores≤8:=H2.out.soc.ok.c1
  have hcr:b.sc.g.cores=(b.n:Int):=HU.out
  have hcn:c<b.n:=hc
  unfold Gates.Gt.hold
  simp only [List.getD_eq_getElem?_getD]
  rw [List.getElem?_set_self (by omega)]
  rfl
 have hR:=(H2.out.fresh HT.out.2).relaid (K:= { b.cor c with runs:=none,entry:=0 }) (w4:=w3) (vgc:= .slice none 0 0) (vtc:= .slice none 0 0) (gbc:=fun _=>0) (vfc:=fun _=> .slice none 0 0) (voc:=fun _=> .slice none 0 0) (vlc:=fun _=> .slice none 0 0) (tkc:=fun _=>0) (ttc:=fun _=>0) (vtlc:=fun _=> .slice none 0 0) hc ⟨rfl,rfl⟩ hg1 HT.out.1 (Below.refl _ _) (fun _=> .none_) (fun q=>by rw [hg2] at q;cases q) (.slice none 0 0) (.slice none 0 0) (by rw [hg2];rfl) (by rw [hg2];rfl)
 rw [HY.out] at hR
 have HR:=Lib.hid (BdTo.step ⟨ybd,HY.out⟩ HS.out.1 HS.out.2 (BdTo.from_ HT.out.2 (hR.fresh (Below.refl _ _).drew)))
 clear hR hg1 hg2
 go_wp2_with fail
 go_ret
 exact ⟨rfl,HR.out⟩
end
theorem fresh_core {w w':World} {n r c own:Nat} {vg vt:Value} (h:FreshTo w n r c own vg vt w'):∃tg gbc vfc tkc ttc,CoreAt w' n r c (freshCor n r c own) vg vt gbc vfc (fun _=>nilS) (fun _=>nilS) tkc ttc (fun _=>nilS)∧CoreOwn w.heap.size n c tg vg vt gbc vfc (fun _=>nilS) (fun _=>nilS) tkc ttc (fun _=>nilS):=by
 obtain ⟨tg,gb,vf,tk,tt,h⟩:=h
 exact ⟨tg,gb,vf,tk,tt,⟨h.givs,h.taks,fun p hp hpc=>h.giv p hp hpc,fun p hp hpc=>h.tak p hp hpc⟩,
  ⟨fun k q=>⟨by have:=(h.rows k q).1;omega,(h.rows k q).2⟩,fun p hp hpc k q=>⟨by have:=(h.gF p hp hpc k q).1;omega,(h.gF p hp hpc k q).2⟩,fun p hp hpc k q=>⟨by have:=(h.tF p hp hpc k q).1;omega,(h.tF p hp hpc k q).2⟩⟩⟩
section
variable {w:World} {Y:Lay} {b:Bd} {x:Ev} {lv:Value} {o v:Int}
set_option maxRecDepth 100000 in
theorem bDo_startNo (hN:b.now<50000) (hki:x.kind=7) (hno:(Gates.startR b.sc.g x.core).2≠0) (h:BdAt w Y b):
  Calls Tryz.prog 8 #[ptr Y.bd,evV x lv o v] w fun e w'=>e= .returned (.int .i64 (b.do_ x).2)∧BdTo w Y b (b.do_ x).1 w':=by
 obtain ⟨w1,w2,Y2,hw1,hw2,c6,f6,he2,⟨ybd,ycg⟩,h2,k2,n2,no2,lt2⟩:=do_box x lv o v h
 have HW1:=Lib.hid hw1
 have HW2:=Lib.hid hw2
 have ev0:=he2.cell 0
 have ev1:=he2.cell 1
 have ev2:=he2.cell 2
 have ev3:=he2.cell 3
 have ev4:=he2.cell 4
 have ev5:=he2.cell 5
 have ev6:=he2.cell 6
 simp only [evCells,List.getElem?_cons_zero,List.getElem?_cons_succ] at ev0 ev1 ev2 ev3 ev4 ev5 ev6
 have HS:=Lib.hid (And.intro k2 n2)
 have ea:({ b with now:=b.now+1 }:Bd).act x=(({ b with now:=b.now+1 }:Bd),(Gates.startR b.sc.g x.core).2):=by
  unfold Bd.act
  rw [if_neg (by omega),if_neg (by omega),if_neg (by omega),if_neg (by omega),if_pos hki]
  simp only
  rw [if_pos hno]
 show Calls Tryz.prog 8 #[ptr Y.bd,evV x lv o v] w fun e w'=>e= .returned (.int .i64 (({ b with now:=b.now+1 }:Bd).act x).2)∧BdTo w Y b (({ b with now:=b.now+1 }:Bd).act x).1 w'
 rw [ea]
 have hg:(Gates.startR b.sc.g x.core).1=b.sc.g:=by
  unfold Gates.startR at *
  split
  ·split
   ·rename_i q1 q2
    rw [if_pos q1,if_pos q2] at hno
    exact absurd rfl hno
   ·rfl
  ·rfl
 have hC:∀u,Below w2.heap.size w2 u→Calls Tryz.prog 26 #[.pointer (some ⟨Y2.S.soc,0,none⟩), .int .i64 x.core] u fun e w'=>e= .returned (.int .i64 (Gates.startR b.sc.g x.core).2)∧BdTo w Y b ({ b with now:=b.now+1 }:Bd) w'∧w'.cell? ⟨Y.bd,3,none⟩=some (.pointer (some ⟨Y2.S.soc,0,none⟩))∧w'.cell? ⟨w.heap.size,1,none⟩=some (.int .i64 x.core):=by
  intro u hu
  have hsa:=socStart_any Y2.S _ _ _ _ _ _ _ x.core u (h2.fresh hu).soc
  refine hsa.mono ?_
  rintro e w' ⟨he,hb⟩
  have hb:SocTo u Y2.S b.n (chanWords b.n b.ring) b.most Y2.vs b.sc.m b.sc.q b.sc.g w':=by
   have hb':SocTo u Y2.S b.n (chanWords b.n b.ring) b.most Y2.vs b.sc.m b.sc.q (Gates.startR b.sc.g x.core).1 w':=hb
   rw [hg] at hb'
   exact hb'
  have h3:=BdTo.from_ hu ((h2.fresh hu).socOn hb)
  obtain ⟨vs',_,kb,_⟩:=hb
  obtain ⟨tag,ow⟩:=h2.own
  have q3:=((h2.fresh hu).board.keep kb (fun r=>by
   have e1:=ow.soc _ (.inr (.inr (.inr (.inr (.inr r)))))
   rw [ow.brd _ (.inl rfl)] at e1
   cases e1)).cell 3
  rw [ybd] at q3
  have q1:=(he2.keep (Keep.ofFresh hu (B:=0) (F:=fun _=>False)) (fun q=>q)).keep kb (fun r=>no2 (.inl (.inr (.inr (.inr (.inr (.inr r)))))))
  exact ⟨he,BdTo.step ⟨ybd,ycg⟩ k2 n2 h3,q3,q1.cell 1⟩
 clear hg
 generalize (Gates.startR b.sc.g x.core).2=er at *
 have HC:=Lib.hid hC
 have n0:(er == 0)=false:=by simpa using hno
 have c3:=h2.board.cell 3
 rw [ybd] at c3
 simp only [List.getElem?_cons_zero,List.getElem?_cons_succ,ptr] at c3
 have HW:=Lib.hid (World.block_lt_of_cell? w1 _ c6)
 have hnow:(b.now:Int)<100000:=by omega
 obtain ⟨kind,core,peer,hd,load⟩:=x
 simp only at hki HC
 subst hki
 clear hw1 hw2 he2 h2 k2 n2 no2 lt2 h hN ycg ea hC HS hno
 unfold ptr evV at *
 go_enter Tryz.func8,Tryz.ntmps8
 go_upto_region 3 with fail
 rw [←HW1.out]
 go_upto_region 4 with fail
 rw [←HW2.out]
 clear c6 f6
 go_wp2_with fail
 have hS:w2.cell? ⟨Y.bd,3,none⟩=some (.pointer (some ⟨Y2.S.soc,0,none⟩))∧w2.cell? ⟨w.heap.size,1,none⟩=some (.int .i64 core):=⟨c3,ev1⟩
 go_region_held3 (fun u=>u.cell? ⟨Y.bd,3,none⟩=some (.pointer (some ⟨Y2.S.soc,0,none⟩))∧u.cell? ⟨w.heap.size,1,none⟩=some (.int .i64 core)) (first|exact hS|assumption) (first|(go_at_call 26;refine (HC.out _ (by first|exact Below.refl _ _|exact (Below.refl _ _).drew)).mono ?_;rintro e w' ⟨rfl,HT,hS3⟩;have HT:=Lib.hid HT))
 go_wp2_with fail
 go_ret
 exact ⟨rfl,HT.out⟩
set_option maxHeartbeats 4000000 in
set_option maxRecDepth 100000 in
theorem bDo_startYes (hN:b.now<50000) (hki:x.kind=7) (hRt:rightB b.n b.ring b.most=true) {c:Nat} (hcx:x.core=c) (hc:c<b.n) (hu:b.upb c=false) (h:BdAt w Y b):
  Calls Tryz.prog 8 #[ptr Y.bd,evV x lv o v] w fun e w'=>e= .returned (.int .i64 (b.do_ x).2)∧BdTo w Y b (b.do_ x).1 w':=by
 obtain ⟨w1,w2,Y2,hw1,hw2,c6,f6,he2,⟨ybd,ycg⟩,h2,k2,n2,no2,lt2⟩:=do_box x lv o v h
 have HW1:=Lib.hid hw1
 have HW2:=Lib.hid hw2
 have ev0:=he2.cell 0
 have ev1:=he2.cell 1
 have ev2:=he2.cell 2
 have ev3:=he2.cell 3
 have ev4:=he2.cell 4
 have ev5:=he2.cell 5
 have ev6:=he2.cell 6
 simp only [evCells,List.getElem?_cons_zero,List.getElem?_cons_succ] at ev0 ev1 ev2 ev3 ev4 ev5 ev6
 have HS:=Lib.hid (And.intro k2 n2)
 have hhd:b.sc.g.held.getD c false=true:=by
  have:(!(b.sc.g.held.getD c false))=false:=hu
  simpa using this
 have hhc:b.sc.g.cores=b.n:=h2.soc.cores
 have hcE:Gates.coreE b.sc.g.cores (c:Int)=0:=by unfold Gates.coreE;rw [hhc,if_pos (by omega)]
 have hho:(Gates.startR b.sc.g x.core)=(((b.sc.g.hold c false).ep c ((b.sc.g.eps.getD c 0+1)%65536)),0):=by
  unfold Gates.startR
  rw [hcx,if_pos hcE,Int.toNat_natCast,if_pos hhd]
 generalize hG:((b.sc.g.hold c false).ep c ((b.sc.g.eps.getD c 0+1)%65536))=g' at *
 have ea:({ b with now:=b.now+1 }:Bd).act x=((({ b with now:=b.now+1 }:Bd).setSc { b.sc with g:=g' }).setCor c (freshCor b.n b.ring c (g'.eps.getD c 0).toNat),0):=by
  unfold Bd.act
  rw [if_neg (by omega),if_neg (by omega),if_neg (by omega),if_neg (by omega),if_pos hki]
  simp only
  rw [hho]
  simp only
  rw [if_neg (by simp),hcx,Int.toNat_natCast]
 show Calls Tryz.prog 8 #[ptr Y.bd,evV x lv o v] w fun e w'=>e= .returned (.int .i64 (({ b with now:=b.now+1 }:Bd).act x).2)∧BdTo w Y b (({ b with now:=b.now+1 }:Bd).act x).1 w'
 rw [ea]
 have hok:g'.Ok∧g'.cores=b.sc.g.cores:=by
  have:=startR_ok h2.soc.ok x.core
  have h3:(Gates.startR b.sc.g x.core).1.Ok∧(Gates.startR b.sc.g x.core).1.cores=b.sc.g.cores:=this
  rw [hho] at h3
  exact h3
 have hc8:c<8:=by have h8:b.sc.g.cores≤8:=h2.soc.ok.c1;have h9:c<b.n:=hc;omega
 have hep:0≤g'.eps.getD c 0∧g'.eps.getD c 0≤65535:=by
  have hl:=hok.1.le
  have:g'.eps.getD c 0∈g'.eps:=by
   rw [List.getD_eq_getElem?_getD,List.getElem?_eq_getElem (by omega),Option.getD_some]
   exact List.getElem_mem _
  exact hok.1.rng _ this
 have hg1:∀i,i≠c→g'.held.getD i false=b.sc.g.held.getD i false:=fun i hi=>by
  rw [←hG]
  unfold Gates.Gt.ep Gates.Gt.hold
  simp only [List.getD_eq_getElem?_getD]
  rw [List.getElem?_set_ne (Ne.symm hi)]
 have hg2:g'.held.getD c false=false:=by
  have hl:b.sc.g.held.length=8:=h2.soc.ok.lh
  rw [←hG]
  unfold Gates.Gt.ep Gates.Gt.hold
  simp only [List.getD_eq_getElem?_getD]
  rw [List.getElem?_set_self (by omega)]
  rfl
 obtain ⟨own,hown⟩:∃own:Nat,g'.eps.getD c 0=(own:Int):=⟨_,(Int.toNat_of_nonneg hep.1).symm⟩
 rw [hown,Int.toNat_natCast]
 have hC:∀u,Below w2.heap.size w2 u→Calls Tryz.prog 26 #[.pointer (some ⟨Y2.S.soc,0,none⟩), .int .i64 (c:Int)] u fun e w'=>e= .returned (.int .i64 0)∧(SocTo u Y2.S b.n (chanWords b.n b.ring) b.most Y2.vs b.sc.m b.sc.q g' w'∧Below w2.heap.size w2 u∧Glob w')∧w'.cell? ⟨Y.bd,3,none⟩=some (.pointer (some ⟨Y2.S.soc,0,none⟩))∧w'.cell? ⟨w.heap.size,1,none⟩=some (.int .i64 (c:Int))∧(∃vd nw,Blk w' Y.bd 65 [.int .i64 b.n, .int .i64 b.ring, .int .i64 b.most, .pointer (some ⟨Y2.S.soc,0,none⟩), .slice (some ⟨Y.cg,0,none⟩) b.n Y2.ccap,vd,nw])∧(∃cs,Blk w' Y.cg 71 cs∧c*4+3<cs.length):=by
  intro u hu
  have hsa:=socStart_any Y2.S _ _ _ _ _ _ _ (c:Int) u (h2.fresh hu).soc
  rw [←hcx,show (Gates.startR ({ b with now:=b.now+1 }:Bd).sc.g x.core)=(g',0) from hho] at hsa
  rw [←hcx]
  refine hsa.mono ?_
  rintro e w' ⟨he,hb⟩
  have hb':=hb
  obtain ⟨vs',_,kb,_⟩:=hb
  obtain ⟨tag,ow⟩:=h2.own
  have hbr:∀k,BrdF Y2 ({ b with now:=b.now+1 }:Bd) k→ ¬SocF Y2.S b.n Y2.vs k:=fun k q r=>by
   have e1:=ow.soc _ (.inr (.inr (.inr (.inr (.inr r)))))
   rw [ow.brd _ q] at e1
   cases e1
  have qb:=(h2.fresh hu).board.keep kb (hbr _ (.inl rfl))
  have q3:=qb.cell 3
  rw [ybd] at q3 qb
  rw [ycg] at qb
  have q1:=(he2.keep (Keep.ofFresh hu (B:=0) (F:=fun _=>False)) (fun q=>q)).keep kb (fun r=>no2 (.inl (.inr (.inr (.inr (.inr (.inr r)))))))
  obtain ⟨cs,hcs,hcc⟩:=(h2.fresh hu).cores
  have hcs3:=hcs.keep kb (hbr _ (.inr (.inl rfl)))
  rw [ycg] at hcs3
  have hlen:c*4+3<cs.length:=by
   have:=(hcc c hc).2.2.2
   exact (List.getElem?_eq_some_iff.1 this).1
  have hgl:=(h2.fresh hu).glob.keep kb (fun r=>by have:=ow.soc 0 (.inr (.inr (.inr (.inr (.inr r)))));rw [ow.glb.1] at this;cases this) (fun r=>by have:=ow.soc 1 (.inr (.inr (.inr (.inr (.inr r)))));rw [ow.glb.2] at this;cases this)
  exact ⟨he,⟨hb',hu,hgl⟩,q3,by rw [q1.cell 1];rfl,⟨_,_,qb⟩,⟨cs,hcs3,hlen⟩⟩
 have HC:=Lib.hid hC
 have HE:=Lib.hid (fun u vs' (hs:SocAt u Y2.S b.n (chanWords b.n b.ring) b.most vs' b.sc.m b.sc.q g')=>by
  have:=socEpoch_any Y2.S _ _ _ _ _ _ _ (c:Int) u hs
  have e1:Gates.epR g' (c:Int)=(own:Int):=by unfold Gates.epR;rw [hok.2,if_pos hcE,Int.toNat_natCast,hown]
  have e2:Gates.coreE g'.cores (c:Int)=0:=by rw [hok.2];exact hcE
  rw [e1,e2] at this
  exact this)
 have hown2:own<65536:=by omega
 have HFR:=Lib.hid (fun u (hu:Glob u)=>fresh_any b.n b.ring b.most c own hRt hc hown2 u hu)
 have HGG:=Lib.hid (And.intro hg1 hg2)
 have c3:=h2.board.cell 3
 rw [ybd] at c3
 simp only [List.getElem?_cons_zero,List.getElem?_cons_succ,ptr] at c3
 have H2:=Lib.hid h2
 have HY:=Lib.hid ycg
 have HW:=Lib.hid (World.block_lt_of_cell? w1 _ c6)
 have hnow:(b.now:Int)<100000:=by omega
 obtain ⟨kind,core,peer,hd,load⟩:=x
 simp only at hki HC hcx
 subst hcx
 subst hki
 clear hw1 hw2 he2 h2 k2 n2 no2 lt2 h hN ycg ea hC hu hhd hhc hcE hho hG hok hep hg1 hg2 hown hc8 hown2 hRt
 unfold ptr evV at *
 go_enter Tryz.func8,Tryz.ntmps8
 go_upto_region 3 with fail
 rw [←HW1.out]
 go_upto_region 4 with fail
 rw [←HW2.out]
 clear c6 f6
 go_wp2_with fail
 have hS:w2.cell? ⟨Y.bd,3,none⟩=some (.pointer (some ⟨Y2.S.soc,0,none⟩))∧w2.cell? ⟨w.heap.size,1,none⟩=some (.int .i64 (c:Int)):=⟨c3,ev1⟩
 go_region_held3 (fun u=>u.cell? ⟨Y.bd,3,none⟩=some (.pointer (some ⟨Y2.S.soc,0,none⟩))∧u.cell? ⟨w.heap.size,1,none⟩=some (.int .i64 (c:Int))) (first|exact hS|assumption) (first|(go_at_call 26;refine (HC.out _ (by first|exact Below.refl _ _|exact (Below.refl _ _).drew)).mono ?_;rintro e w3 ⟨rfl,HT,hq3,hq1,hqb,hqc⟩;have hS3:=And.intro hq3 hq1;have HT:=Lib.hid HT;have HQ:=Lib.hid (And.intro hqb hqc);clear hqb hqc))
 obtain ⟨⟨vd,nw,hqb⟩,⟨cs,hcs3,hlen⟩⟩:=HQ.out
 obtain ⟨vs',hso,kso,nso⟩:=HT.out.1
 have HEU:=Lib.hid (HE.out _ _ (hso.keepAll (Keep.ofFresh (Below.refl w3.heap.size w3).drew (B:=0) (F:=fun _=>False)) (fun _ _ q=>q)))
 have HEV:=Lib.hid (HE.out _ _ hso)
 clear hso kso nso
 have hS4:w3.cell? ⟨Y.bd,3,none⟩=some (.pointer (some ⟨Y2.S.soc,0,none⟩))∧w3.cell? ⟨w.heap.size,1,none⟩=some (.int .i64 (c:Int)):=hS3
 go_upto_region 22 with fail
 go_region_held3 (fun u=>u.cell? ⟨Y.bd,3,none⟩=some (.pointer (some ⟨Y2.S.soc,0,none⟩))∧u.cell? ⟨w.heap.size,1,none⟩=some (.int .i64 (c:Int))) (first|exact hS4|assumption) (first|(go_at_call 27;refine (by first|exact HEU.out|exact HEV.out:Calls _ _ _ _ _).mono ?_;rintro e w5 ⟨rfl,rfl⟩))
 go_upto_region 23 with fail
 have hF:∀u,Below w3.heap.size w3 u→Calls Tryz.prog 20 #[.agg #[.int .i64 b.n, .int .i64 b.ring, .int .i64 b.most], .int .i64 (c:Int), .int .i64 (own:Int)] u fun e w4=>∃A1 q1 A2 q2,e= .returned (.agg #[.slice A1 b.n q1, .slice A2 b.n q2, .nilIface, .int .i64 0])∧
   ((∃tg gbc vfc tkc ttc,CoreAt w4 b.n b.ring c (freshCor b.n b.ring c own) (.slice A1 b.n q1) (.slice A2 b.n q2) gbc vfc (fun _=>nilS) (fun _=>nilS) tkc ttc (fun _=>nilS)∧CoreOwn w3.heap.size b.n c tg (.slice A1 b.n q1) (.slice A2 b.n q2) gbc vfc (fun _=>nilS) (fun _=>nilS) tkc ttc (fun _=>nilS))∧Below w3.heap.size w3 w4)∧
   (w4.cell? ⟨Y.bd,0,none⟩=some (.int .i64 b.n)∧w4.cell? ⟨Y.bd,1,none⟩=some (.int .i64 b.ring)∧w4.cell? ⟨Y.bd,2,none⟩=some (.int .i64 b.most)∧w4.cell? ⟨Y.bd,4,none⟩=some (.slice (some ⟨Y.cg,0,none⟩) b.n Y2.ccap)∧w4.cell? ⟨w.heap.size,1,none⟩=some (.int .i64 (c:Int)))∧
   (∃y0 y1 y2 y3,w4.cell? ⟨Y.cg,c*4,none⟩=some y0∧w4.cell? ⟨Y.cg,c*4+1,none⟩=some y1∧w4.cell? ⟨Y.cg,c*4+2,none⟩=some y2∧w4.cell? ⟨Y.cg,c*4+3,none⟩=some y3)∧
   w4.frozen? ⟨Y.cg,c*4,none⟩=false∧w4.frozen? ⟨Y.cg,c*4+1,none⟩=false∧w4.frozen? ⟨Y.cg,c*4+2,none⟩=false∧w4.frozen? ⟨Y.cg,c*4+3,none⟩=false:=by
  intro u hu
  refine (HFR.out u (HT.out.2.2.fresh hu)).mono ?_
  rintro e w4 ⟨vg,vt,rfl,hft,hb4⟩
  have hus:=hu.size
  have hb34:Below w3.heap.size w3 w4:=hu.trans (hb4.mono hus)
  obtain ⟨tg,gbc,vfc,tkc,ttc,ca,ow⟩:=fresh_core hft
  obtain ⟨A1,q1,h1⟩:=ca.givs.slice
  obtain ⟨A2,q2,h2⟩:=ca.taks.slice
  subst h1 h2
  have kb:=hqb.keep (Keep.ofFresh hb34 (B:=0) (F:=fun _=>False)) (fun q=>q)
  have kc:=hcs3.keep (Keep.ofFresh hb34 (B:=0) (F:=fun _=>False)) (fun q=>q)
  refine ⟨A1,q1,A2,q2,rfl,⟨⟨tg,gbc,vfc,tkc,ttc,ca,ow.mono hus (fun _ _=>rfl)⟩,hb34⟩,⟨kb.cell 0,kb.cell 1,kb.cell 2,kb.cell 4,(hb34.cell (p:=⟨w.heap.size,1,none⟩) (World.block_lt_of_cell? w3 _ hS4.2)).trans hS4.2⟩,⟨cs[c*4],cs[c*4+1],cs[c*4+2],cs[c*4+3], ?_, ?_, ?_, ?_⟩,kc.free _,kc.free _,kc.free _,kc.free _⟩
  ·rw [kc.cell];exact List.getElem?_eq_getElem _
  ·rw [kc.cell];exact List.getElem?_eq_getElem _
  ·rw [kc.cell];exact List.getElem?_eq_getElem _
  ·rw [kc.cell];exact List.getElem?_eq_getElem _
 have HF:=Lib.hid hF
 have m0:=hqb.cell 0
 have m1:=hqb.cell 1
 have m2:=hqb.cell 2
 have m4:=hqb.cell 4
 simp only [List.getElem?_cons_zero,List.getElem?_cons_succ] at m0 m1 m2 m4
 have me:=hS4.2
 have hc0:(0:Int)≤(c:Int):=by omega
 have hc1:(c:Int)<(b.n:Int):=by omega
 clear hF hqb hcs3 hlen HEU HEV HQ HE HFR HC hS3 hS4 hq3 hq1 hS ev1 ev2 ev3 ev4 ev5 ev6 ev0
 go_region_law (go_simp;go_at_call 20;refine (HF.out _ (by first|exact (Below.refl _ _).drew|exact (Below.refl _ _).drew.drew|exact belowN (Below.refl _ _) _)).mono ?_;rintro e w4 ⟨A1,q1,A2,q2,rfl,HX,⟨x0,x1,x2,x4,x5⟩,⟨y0,y1,y2,y3,t0,t1,t2,t3⟩,f0,f1,f2,f3⟩;have HX:=Lib.hid HX)
 all_goals (
  obtain ⟨⟨tg,gbc,vfc,tkc,ttc,ca,ow⟩,hb4⟩:=HX.out
  have hR:=(H2.out.fresh HT.out.2.1).relaid (K:=freshCor b.n b.ring c own) hc ⟨rfl,rfl⟩ HGG.out.1 HT.out.1 hb4 tg (fun _=>⟨ca,ow⟩) (.slice A1 b.n q1) (.slice A2 b.n q2) (by rw [if_pos HGG.out.2]) (by rw [if_pos HGG.out.2])
  rw [HY.out] at hR
  have HR:=Lib.hid (BdTo.step ⟨ybd,HY.out⟩ HS.out.1 HS.out.2 (BdTo.from_ HT.out.2.1 hR))
  clear hR ca ow hb4 t0 t1 t2 t3 f0 f1 f2 f3 x0 x1 x2 x4 x5
  go_wp2_with fail
  go_ret
  exact ⟨rfl,HR.out⟩)
end
section
variable {w:World} {Y:Lay} {b:Bd} {x:Ev} {lv:Value} {o v:Int}
theorem step_len (b:Bd) (c:Nat):(b.step c).1.diary.length=b.diary.length:=by
 unfold Bd.step
 simp only
 cases hr:(b.cor c).runs with
 | none=>rfl
 | some r=>
  cases r with
  | giv p=>
   simp only
   split
   ·show (b.fin _ _).length=_;unfold Bd.fin;rw [List.length_set]
   ·rfl
  | tak p=>
   simp only
   split
   ·show (b.finT _ _ _).length=_;unfold Bd.finT;simp only;rw [List.length_set]
   ·rfl
theorem call_len (b:Bd) (x:Ev) (c p:Nat):(b.call x c p).1.diary.length≤b.diary.length+1:=by
 unfold Bd.call
 simp only
 split
 ·split
  ·show b.diary.length≤_;omega
  ·show (b.diary ++ [_]).length≤_;rw [List.length_append];simp
 ·split
  ·split
   ·show b.diary.length≤_;omega
   ·show (b.diary ++ [_]).length≤_;rw [List.length_append];simp
  ·split
   ·show b.diary.length≤_;omega
   ·show (b.diary ++ [_]).length≤_;rw [List.length_append];simp
theorem act_len (b:Bd) (x:Ev):(b.act x).1.diary.length≤b.diary.length+1:=by
 have h0:b.diary.length≤b.diary.length+1:=by omega
 have h1:=step_len b x.core.toNat
 have h2:=call_len b x x.core.toNat x.peer.toNat
 unfold Bd.act
 simp only
 repeat' split
 all_goals first|exact h0|exact Nat.le_trans (Nat.le_of_eq h1) h0|exact h2
theorem do_len (b:Bd) (x:Ev):(b.do_ x).1.diary.length≤b.diary.length+1:=act_len { b with now:=b.now+1 } x
theorem bDo_any {L:List Nat} (hG:Good b L) (hN:b.now<40000) (hD:b.diary.length≤b.now) (hRt:rightB b.n b.ring b.most=true) (hk:x.kind≠8) (hl:LoadOk w Y b lv x.load) (h:BdAt w Y b):
  Calls Tryz.prog 8 #[ptr Y.bd,evV x lv o v] w fun e w'=>e= .returned (.int .i64 (b.do_ x).2)∧BdTo w Y b (b.do_ x).1 w':=by
 obtain ⟨P,C,hI,hDR⟩:=hG
 have hT:=hI.tick
 have hN5:b.now<50000:=by omega
 have hD5:b.diary.length≤100000:=by omega
 have hcores:b.sc.g.cores=b.n:=hI.cores
 by_cases k1:x.kind=1
 ·exact bDo_step hT hN5 k1 h
 by_cases k2:x.kind=2
 ·by_cases hh:b.has x.core
  ·exact bDo_drainIn hN5 k2 hh h
  ·exact bDo_drainOut hN5 k2 hh h
 by_cases k3:x.kind=3
 ·exact bDo_call3 hT hN5 hD5 hl k3 h
 by_cases k4:x.kind=4
 ·exact bDo_call4 hT hN5 hD5 hl k4 h
 by_cases k5:x.kind=5
 ·exact bDo_call5 hT hN5 hD5 hl k5 h
 by_cases k6:x.kind=6
 ·by_cases hno:(Gates.holdR b.sc.g x.core).2≠0
  ·exact bDo_holdNo hN5 k6 hno h
  ·unfold Gates.holdR at hno
   by_cases q1:Gates.coreE b.sc.g.cores x.core=0
   ·rw [if_pos q1] at hno
    by_cases q2:b.sc.g.held.getD x.core.toNat false=true
    ·rw [if_pos q2] at hno;simp at hno
    ·have q3:=Gates.core_in q1
     have q4:b.sc.g.held.getD x.core.toNat false=false:=by simpa using q2
     refine bDo_holdYes hN5 k6 (c:=x.core.toNat) (by omega) (by omega) ?_ h
     unfold Bd.upb
     rw [q4];rfl
   ·rw [if_neg q1] at hno
    exact absurd (by simpa using hno) q1
 by_cases k7:x.kind=7
 ·by_cases hno:(Gates.startR b.sc.g x.core).2≠0
  ·exact bDo_startNo hN5 k7 hno h
  ·unfold Gates.startR at hno
   by_cases q1:Gates.coreE b.sc.g.cores x.core=0
   ·rw [if_pos q1] at hno
    by_cases q2:b.sc.g.held.getD x.core.toNat false=true
    ·have q3:=Gates.core_in q1
     refine bDo_startYes hN5 k7 hRt (c:=x.core.toNat) (by omega) (by omega) ?_ h
     unfold Bd.upb
     rw [q2];rfl
    ·rw [if_neg q2] at hno;simp at hno
   ·rw [if_neg q1] at hno
    exact absurd (by simpa using hno) q1
 exact bDo_other hN5 (by omega) h
end
theorem zero71:(Tryz.prog.info? 71).map (fun i=>(i.zero,i.size,i.bytes))=some (some (.agg #[nilS,nilS, .nilIface, .int .i64 0]),4,72):=by kernel_rfl
theorem under63:Tryz.prog.underlying 63=some (.slice 71):=by kernel_rfl
theorem cp_push (W:World) (v:Value) (n:Nat) (xs:List Value) (hn:n≤100) (h:RowZ W 71 4 v n xs) (A1 A2:Option Addr) (n1 q1 n2 q2:Nat):
  ∃A7 q7 w7,(Builtin.append_ #[63,63] 63 #[v, .slice (some ⟨W.heap.size,0,none⟩) 1 1]).run Tryz.prog (W.alloc (.cells #[.slice A1 n1 q1, .slice A2 n2 q2, .nilIface, .int .i64 0] 71))= .ok (.slice A7 (n+1) q7) w7∧
   RowZ w7 71 4 (.slice A7 (n+1) q7) (n+1) (xs ++ [.slice A1 n1 q1, .slice A2 n2 q2, .nilIface, .int .i64 0])∧(W.alloc (.cells #[.slice A1 n1 q1, .slice A2 n2 q2, .nilIface, .int .i64 0] 71)).grownBy w7 v.ownBlock∧((Value.slice A7 (n+1) q7).ownBlock=v.ownBlock∨(Value.slice A7 (n+1) q7).ownBlock=some (W.alloc (.cells #[.slice A1 n1 q1, .slice A2 n2 q2, .nilIface, .int .i64 0] 71)).heap.size):=by
 obtain ⟨i0,hi,hzz⟩:=Option.map_eq_some_iff.1 zero71
 simp only [Prod.mk.injEq] at hzz
 obtain ⟨hz0,hz1,hz2⟩:=hzz
 have hb:Below W.heap.size W (W.alloc (.cells #[.slice A1 n1 q1, .slice A2 n2 q2, .nilIface, .int .i64 0] 71)):=(Below.refl _ _).alloc (Nat.le_refl _) _
 have n6:=Blk.new W 71 [.slice A1 n1 q1, .slice A2 n2 q2, .nilIface, .int .i64 0]
 obtain ⟨v7,w7,h1,h2,h3,h4⟩:=RowZ.append (P:=Tryz.prog) (W.alloc (.cells #[.slice A1 n1 q1, .slice A2 n2 q2, .nilIface, .int .i64 0] 71)) 63 63 71 i0 _ 4 72 under63 hi hz0 hz1 hz2 rfl (by decide) _ _ _ (h.move fun k q=>hb.block k (h.lt k q)) ⟨W.heap.size,0,none⟩ 1 1 [.slice A1 n1 q1, .slice A2 n2 q2, .nilIface, .int .i64 0] rfl
  (by intro j u hu;rw [add_lit,Nat.zero_add];exact (n6.cell j).trans hu) (by intro u hu;simp only [List.mem_cons,List.not_mem_nil,or_false] at hu;rcases hu with rfl|rfl|rfl|rfl<;>rfl) (by unfold maxLen;omega) (by omega)
 obtain ⟨A7,q7,hv⟩:=h2.slice
 subst hv
 exact ⟨A7,q7,w7,h1,h2,h3,h4⟩
def coreRow (i:Nat) (vg vt:Nat→Value):List Value:=(List.range i).flatMap fun c=> [vg c,vt c, .nilIface, .int .i64 0]
theorem coreRow_push (i:Nat) (vg vt:Nat→Value) (a b:Value):coreRow (i+1) (upd vg i a) (upd vt i b)=coreRow i vg vt ++ [a,b, .nilIface, .int .i64 0]:=by
 unfold coreRow
 rw [List.range_succ,List.flatMap_append]
 congr 1
 ·refine flat_congr _ _ _ (fun p hp=> ?_)
  rw [upd_other _ _ _ _ (by omega),upd_other _ _ _ _ (by omega)]
 ·simp [upd_same]
theorem CoreAt.lts {w:World} {n ring c B:Nat} {K:Cor} {vgc vtc:Value} {gbc:Nat→Nat} {vfc voc vlc:Nat→Value} {tkc ttc:Nat→Nat} {vtlc:Nat→Value} {tg:Nat→Tag} (h:CoreAt w n ring c K vgc vtc gbc vfc voc vlc tkc ttc vtlc) (o:CoreOwn B n c tg vgc vtc gbc vfc voc vlc tkc ttc vtlc) (tg':Nat→Tag) (ht:∀k,k<w.heap.size→tg' k=tg k):CoreOwn B n c tg' vgc vtc gbc vfc voc vlc tkc ttc vtlc:=
 ⟨fun k q=>⟨(o.rows k q).1,(ht k (q.elim (h.givs.lt k) (h.taks.lt k))).trans (o.rows k q).2⟩,fun p hp hpc k q=>⟨(o.giv p hp hpc k q).1,(ht k ((h.giv p hp hpc).lt k q)).trans (o.giv p hp hpc k q).2⟩,
  fun p hp hpc k q=>⟨(o.tak p hp hpc k q).1,(ht k ((h.tak p hp hpc).lt k q)).trans (o.tak p hp hpc k q).2⟩⟩
structure CL where
 vg:Nat→Value
 vt:Nat→Value
 gb:Nat→Nat→Nat
 vf:Nat→Nat→Value
 tk:Nat→Nat→Nat
 tt:Nat→Nat→Nat
structure NewIn (w u:World) (n r m i bd:Nat) (S:SocL) (v:Value) (Z:CL) (tg:Nat→Tag):Prop where
 b:Below w.heap.size w u
 p:Blk u w.heap.size 23 [.int .i64 n, .int .i64 r, .int .i64 m]
 brd:Blk u bd 65 [.int .i64 n, .int .i64 r, .int .i64 m,ptr S.soc,v,nilS, .int .i64 0]
 row:RowZ u 71 4 v i (coreRow i Z.vg Z.vt)
 soc:SocAt u S n (chanWords n r) m (fun _=>nilS) (fun _=>0) (fun _=> []) (Gates.newGt n)
 core:∀c,c<i→CoreAt u n r c (freshCor n r c 0) (Z.vg c) (Z.vt c) (Z.gb c) (Z.vf c) (fun _=>nilS) (fun _=>nilS) (Z.tk c) (Z.tt c) (fun _=>nilS)
 cown:∀c,c<i→CoreOwn (w.heap.size+1) n c tg (Z.vg c) (Z.vt c) (Z.gb c) (Z.vf c) (fun _=>nilS) (fun _=>nilS) (Z.tk c) (Z.tt c) (fun _=>nilS)
 sown:∀k,SocAll S n (fun _=>nilS) k→w.heap.size+1≤k∧tg k= .soc
 bown:w.heap.size+1≤bd∧tg bd= .brd
 vown:∀k,v.ownBlock=some k→w.heap.size+1≤k∧tg k= .brd
 g:Glob u
 big:2≤w.heap.size
theorem newStage {w u:World} {n r m i bd:Nat} {S:SocL} {v:Value} {Z:CL} {tg:Nat→Tag} (h:NewIn w u n r m i bd S v Z tg) (hR:rightB n r m=true) (hi:i<n):
  Calls Tryz.prog 20 #[plotV n r m, .int .i64 i, .int .i64 (0:Nat)] u.drew fun e x'=>∃A1 q1 A2 q2,e= .returned (.agg #[.slice A1 n q1, .slice A2 n q2, .nilIface, .int .i64 0])∧∃A7 q7 w7,(Builtin.append_ #[63,63] 63 #[v, .slice (some ⟨x'.heap.size,0,none⟩) 1 1]).run Tryz.prog (x'.alloc (.cells #[.slice A1 n q1, .slice A2 n q2, .nilIface, .int .i64 0] 71))= .ok (.slice A7 (i+1) q7) w7∧
   (x'.cell? ⟨bd,4,none⟩=some v∧x'.cell? ⟨w.heap.size,0,none⟩=some (.int .i64 n)∧x'.cell? ⟨w.heap.size,1,none⟩=some (.int .i64 r)∧x'.cell? ⟨w.heap.size,2,none⟩=some (.int .i64 m))∧(x'.alloc (.cells #[.slice A1 n q1, .slice A2 n q2, .nilIface, .int .i64 0] 71)).cell? ⟨bd,4,none⟩=some v∧w7.cell? ⟨bd,4,none⟩=some v∧w7.frozen? ⟨bd,4,none⟩=false∧
   ∃Z' tg',NewIn w (w7.setCell ⟨bd,4,none⟩ (.slice A7 (i+1) q7)) n r m (i+1) bd S (.slice A7 (i+1) q7) Z' tg':=by
 have hd:Below u.heap.size u u.drew:=(Below.refl _ _).drew
 obtain ⟨hn0,hn1,⟨hr0,hr1⟩,hrb,hm0,hm1⟩:=right_of hR
 refine (fresh_any n r m i 0 hR hi (by omega) u.drew (h.g.fresh hd)).mono ?_
 rintro e x ⟨vgc,vtc,rfl,hft,hbx⟩
 have hx:Below u.heap.size u x:=hd.trans hbx
 obtain ⟨tgc,gbc,vfc,tkc,ttc,ca,ow⟩:=fresh_core hft
 have ow:CoreOwn u.heap.size n i tgc vgc vtc gbc vfc (fun _=>nilS) (fun _=>nilS) tkc ttc (fun _=>nilS):=ow
 obtain ⟨A1,q1,hv1⟩:=ca.givs.slice
 obtain ⟨A2,q2,hv2⟩:=ca.taks.slice
 subst hv1 hv2
 have hrow:=h.row.move (w':=x) fun k q=>hx.block k (h.row.lt k q)
 obtain ⟨A7,q7,w7,e1,e2,e3,e4⟩:=cp_push x v i _ (by omega) hrow A1 A2 n q1 n q2
 have ha:Below x.heap.size x (x.alloc (.cells #[.slice A1 n q1, .slice A2 n q2, .nilIface, .int .i64 0] 71)):=(Below.refl _ _).alloc (Nat.le_refl _) _
 have hua:Below u.heap.size u (x.alloc (.cells #[.slice A1 n q1, .slice A2 n q2, .nilIface, .int .i64 0] 71)):=hx.trans (ha.mono hx.size)
 have hsa:x.heap.size<(x.alloc (.cells #[.slice A1 n q1, .slice A2 n q2, .nilIface, .int .i64 0] 71)).heap.size:=by simp
 generalize hxa:x.alloc (.cells #[.slice A1 n q1, .slice A2 n q2, .nilIface, .int .i64 0] 71)=xa at *
 have hlv:∀k,v.ownBlock=some k→k<u.heap.size:=fun k q=>h.row.lt k q
 have hsx:=hx.size
 have hsb:=h.b.size
 have hdB:w.heap.size<u.heap.size:=h.p.lt
 have kg:Keep (fun k=>v.ownBlock=some k) xa w7:=Keep.grown e3
 have b7:=(h.brd.keep (Keep.ofFresh hua (B:=0) (F:=fun _=>False)) (fun q=>q)).keep kg (fun q=>h.row.ne h.brd (by decide) q)
 have hset:Keep (fun k=>k=bd) w7 (w7.setCell ⟨bd,4,none⟩ (.slice A7 (i+1) q7)):=Keep.setCell (F:=fun k=>k=bd) (p:=⟨bd,4,none⟩) (Keep.refl _ _) (fun _=>rfl) _
 have kall:Keep (fun k=>v.ownBlock=some k∨k=bd) u (w7.setCell ⟨bd,4,none⟩ (.slice A7 (i+1) q7)):=((Keep.ofFresh hua (B:=0)).trans' (kg.mono (fun k _ q=> .inl q))).trans' (hset.mono (fun k _ q=> .inr q))
 have kxa:Keep (fun k=>v.ownBlock=some k∨k=bd) x (w7.setCell ⟨bd,4,none⟩ (.slice A7 (i+1) q7)):=((Keep.ofFresh ha (B:=0)).trans' (kg.mono (fun k _ q=> .inl q))).trans' (hset.mono (fun k _ q=> .inr q))
 have htb:∀k,(v.ownBlock=some k∨k=bd)→w.heap.size+1≤k∧tg k= .brd∧k<u.heap.size:=fun k q=>by
  rcases q with q|q
  ·exact ⟨(h.vown k q).1,(h.vown k q).2,hlv k q⟩
  ·subst q;exact ⟨h.bown.1,h.bown.2,h.brd.lt⟩
 rw [←coreRow_push] at e2
 have b7c:=b7.cell 4
 have b7f:=b7.free 4
 have xac:=(h.brd.keep (Keep.ofFresh hua (B:=0) (F:=fun _=>False)) (fun q=>q)).cell 4
 subst hxa
 refine ⟨A1,q1,A2,q2,rfl,A7,q7,w7,e1,⟨(h.brd.keep (Keep.ofFresh hx (B:=0) (F:=fun _=>False)) (fun q=>q)).cell 4,(h.p.keep (Keep.ofFresh hx (B:=0) (F:=fun _=>False)) (fun q=>q)).cell 0,(h.p.keep (Keep.ofFresh hx (B:=0) (F:=fun _=>False)) (fun q=>q)).cell 1,(h.p.keep (Keep.ofFresh hx (B:=0) (F:=fun _=>False)) (fun q=>q)).cell 2⟩,xac,b7c,b7f,
  ⟨upd Z.vg i (.slice A1 n q1),upd Z.vt i (.slice A2 n q2),upd Z.gb i gbc,upd Z.vf i vfc,upd Z.tk i tkc,upd Z.tt i ttc⟩,fun k=>if k<u.heap.size then tg k else if k<x.heap.size then tgc k else .brd, ?_⟩
 have hnb:∀k,w.heap.size+1≤k→k<u.heap.size→tg k≠ .brd→ ¬(v.ownBlock=some k∨k=bd):=fun k _ _ q r=>q (htb k r).2.1
 refine ⟨?_,h.p.keep kall (fun q=>by have:=(htb _ q).1;omega),b7.set 4 _,e2.far b7 (by decide) _ _, ?_,fun c hc=> ?_,fun c hc=> ?_,fun k q=> ?_,⟨h.bown.1,by rw [if_pos h.brd.lt];exact h.bown.2⟩,fun k q=> ?_, ?_,h.big⟩
 ·refine h.b.trans (Keep.toBelow (kall.mono (fun k _ q=>by have:=(htb k q).1;omega)) hsb)
 ·exact h.soc.keepAll kall (fun k q r=>by have e5:=(h.sown k q).2;rw [(htb k r).2.1] at e5;cases e5)
 ·by_cases ec:c=i
  ·subst ec
   simp only [upd_same]
   exact ca.keep ow kxa (fun k q r=>by have:=(htb k r).2.2;omega)
  ·simp only [upd_other _ _ _ _ ec]
   have hcc:=h.core c (by omega)
   have hoo:=h.cown c (by omega)
   refine ⟨hcc.givs.keep kall (fun k q r=> ?_),hcc.taks.keep kall (fun k q r=> ?_),fun p hp hpc=>(hcc.giv p hp hpc).keep kall (fun k q r=> ?_),fun p hp hpc=>(hcc.tak p hp hpc).keep kall (fun k q r=> ?_)⟩
   ·obtain ⟨cur,hcur⟩:=hcc.givs.typed k q
    rcases r with r|r
    ·exact h.row.ne hcur (by decide) r
    ·subst r;exact absurd (hcur.same h.brd).1 (by decide)
   ·obtain ⟨cur,hcur⟩:=hcc.taks.typed k q
    rcases r with r|r
    ·exact h.row.ne hcur (by decide) r
    ·subst r;exact absurd (hcur.same h.brd).1 (by decide)
   ·have e5:=(hoo.giv p hp hpc k q).2;rw [(htb k r).2.1] at e5;cases e5
   ·have e5:=(hoo.tak p hp hpc k q).2;rw [(htb k r).2.1] at e5;cases e5
 ·by_cases ec:c=i
  ·subst ec
   simp only [upd_same]
   have o2:CoreOwn u.heap.size n c (fun k=>if k<x.heap.size then tgc k else .brd) (.slice A1 n q1) (.slice A2 n q2) gbc vfc (fun _=>nilS) (fun _=>nilS) tkc ttc (fun _=>nilS):=ca.lts ow _ (fun k hk=>if_pos hk)
   exact o2.mono (by omega) (fun k hk=>by rw [if_neg (by omega)])
  ·simp only [upd_other _ _ _ _ ec]
   exact (h.core c (by omega)).lts (h.cown c (by omega)) _ (fun k hk=>if_pos hk)
 ·have:=h.sown k q
  exact ⟨this.1,by rw [if_pos (h.soc.lt k q)];exact this.2⟩
 ·rcases e4 with e5|e5
  ·rw [e5] at q
   exact ⟨(h.vown k q).1,by rw [if_pos (hlv k q)];exact (h.vown k q).2⟩
  ·rw [e5] at q
   injection q with q
   exact ⟨by omega,by rw [if_neg (by omega),if_neg (by omega)]⟩
 ·exact h.g.keep kall (fun q=>by have:=(htb _ q).1;have:=h.big;omega) (fun q=>by have:=(htb _ q).1;have:=h.big;omega)
def NewIn.lay (bd g cap:Nat) (S:SocL) (Z:CL):Lay:=
 { S:=S,bd:=bd,cg:=g,ccap:=cap,vs:=fun _=>nilS,vg:=Z.vg,vt:=Z.vt,gb:=Z.gb,vf:=Z.vf,vo:=fun _ _=>nilS,vl:=fun _ _=>nilS,tk:=Z.tk,tt:=Z.tt,vtl:=fun _ _=>nilS,vd:=nilS,dl:=fun _=>nilS }
theorem new_up (n r m c:Nat):(Bd.new n r m).upb c=true:=by
 unfold Bd.upb Bd.new Gates.newGt
 simp only [List.getD_eq_getElem?_getD,List.getElem?_replicate]
 split<;>rfl
theorem NewIn.done {w u:World} {n r m bd:Nat} {S:SocL} {v:Value} {Z:CL} {tg:Nat→Tag} (h:NewIn w u n r m n bd S v Z tg) (hn:1≤n):∃Y:Lay,Y.bd=bd∧BdAt u Y (Bd.new n r m)∧(∀k,BdF Y (Bd.new n r m) k→w.heap.size≤k)∧Below w.heap.size w u:=by
 obtain ⟨g,cap,hv,hc,⟨cur,hcur⟩,hcell⟩:=h.row.cells (by omega)
 have hgo:=h.vown g (by rw [hv];rfl)
 have hbig:=h.big
 have hF:∀k,BdF (NewIn.lay bd g cap S Z) (Bd.new n r m) k→w.heap.size+1≤k:=by
  rintro k (q|⟨c,p,hc,hp,hpc,hu,q|q⟩|q|q|⟨c,hc,hu,q⟩|q|⟨i,hi,q⟩)
  ·exact (h.sown k q).1
  ·exact ((h.cown c hc).giv p hp hpc k q).1
  ·exact ((h.cown c hc).tak p hp hpc k q).1
  ·have q:k=bd:=q;rw [q];exact h.bown.1
  ·have q:k=g:=q;rw [q];exact hgo.1
  ·exact ((h.cown c hc).rows k q).1
  ·simp [NewIn.lay,nilS,Value.ownBlock] at q
  ·exact absurd hi (Nat.not_lt_zero _)
 refine ⟨NewIn.lay bd g cap S Z,rfl,⟨?_,⟨cur,hcur,fun c hc=> ?_⟩,fun c hc _=>(h.core c hc).givs,fun c hc _=>(h.core c hc).taks,fun c p hc hp hpc _=>(h.core c hc).giv p hp hpc,fun c p hc hp hpc _=>(h.core c hc).tak p hp hpc,h.soc,⟨rfl, .inl ⟨rfl,rfl⟩⟩,fun i hi=>absurd hi (Nat.not_lt_zero _), ?_,h.g⟩,fun k q=>by have:=hF k q;omega,h.b⟩
 ·have:=h.brd
  rw [hv] at this
  exact this
 ·have hc:c<n:=hc
  rw [new_up,if_pos rfl,if_pos rfl]
  have f0:=flat_get (fun p=> [Z.vg p,Z.vt p,Value.nilIface, .int .i64 0]) 4 (fun _=>rfl) hc (show 0<4 by omega)
  have f1:=flat_get (fun p=> [Z.vg p,Z.vt p,Value.nilIface, .int .i64 0]) 4 (fun _=>rfl) hc (show 1<4 by omega)
  have f2:=flat_get (fun p=> [Z.vg p,Z.vt p,Value.nilIface, .int .i64 0]) 4 (fun _=>rfl) hc (show 2<4 by omega)
  have f3:=flat_get (fun p=> [Z.vg p,Z.vt p,Value.nilIface, .int .i64 0]) 4 (fun _=>rfl) hc (show 3<4 by omega)
  have c0:=(hcell (c*4) (by omega)).1
  have c1:=(hcell (c*4+1) (by omega)).1
  have c2:=(hcell (c*4+2) (by omega)).1
  have c3:=(hcell (c*4+3) (by omega)).1
  rw [hcur.cell] at c0 c1 c2 c3
  exact ⟨c0.trans f0,c1.trans f1,c2.trans f2,c3.trans f3⟩
 ·refine ⟨fun k=>if k<2 then .none_ else tg k,fun k q=> ?_,fun c p hc hp hpc _ k q=> ?_,fun c p hc hp hpc _ k q=> ?_,fun k q=> ?_,rfl,rfl⟩
  ·have:=h.sown k q
   rw [if_neg (by omega)];exact this.2
  ·have:=(h.cown c hc).giv p hp hpc k q
   rw [if_neg (by omega)];exact this.2
  ·have:=(h.cown c hc).tak p hp hpc k q
   rw [if_neg (by omega)];exact this.2
  ·have hk:=hF k (.inr (.inr q))
   rw [if_neg (by omega)]
   rcases q with q|q|⟨c,hc,hu,q⟩|q|⟨i,hi,q⟩
   ·have q:k=bd:=q;rw [q];exact h.bown.2
   ·have q:k=g:=q;rw [q];exact hgo.2
   ·exact ((h.cown c hc).rows k q).2
   ·simp [NewIn.lay,nilS,Value.ownBlock] at q
   ·exact absurd hi (Nat.not_lt_zero _)
set_option maxRecDepth 100000 in
theorem bNew_no (n r m:Int) (hR:rightB n r m=false) (hr:r<9223372036854775808) (w:World) (hg:Glob w):
  Calls Tryz.prog 5 #[plotV n r m] w fun e w'=>e= .returned (.tuple #[.pointer none, .int .i64 2])∧Below w.heap.size w w':=by
 obtain ⟨w1,hw1,hb1,hk1,hg1,hz1⟩:=plot_box n r m w hg
 have hQ:=right_any n r m hr w1 hg1
 rw [hR] at hQ
 have p0:=hk1.cell 0
 have p1:=hk1.cell 1
 have p2:=hk1.cell 2
 simp only [List.getElem?_cons_zero,List.getElem?_cons_succ] at p0 p1 p2
 have HW:=Lib.hid hw1
 have HQ:=Lib.hid hQ
 have HB:=Lib.hid hb1
 clear hw1 hb1 hk1 hg1 hz1 hQ hR hg
 unfold plotV at *
 go_enter Tryz.func5,Tryz.ntmps5
 go_wp2_with fail
 rw [←HW.out]
 go_wp2_with fail
 refine HQ.out.mono ?_
 rintro e w2 ⟨rfl,hb2⟩
 go_wp2_with fail
 go_ret2
 exact ⟨rfl,HB.out.trans (hb2.mono HB.out.size)⟩
theorem words_nat (n r:Nat) (hn:1≤n):(n:Int)*((n:Int)-1)*(4+11*(r:Int))=(chanWords n r:Int):=by
 unfold chanWords
 have e2:((n-1:Nat):Int)=(n:Int)-1:=by omega
 simp only [Int.natCast_mul,Int.natCast_add,e2]
 rfl
set_option maxHeartbeats 4000000 in
set_option maxRecDepth 100000 in
theorem bNew_any (n r m:Nat) (hR:rightB n r m=true) (w:World) (hg:Glob w):
  Calls Tryz.prog 5 #[plotV n r m] w fun e w'=>∃Y:Lay,e= .returned (.tuple #[.pointer (some ⟨Y.bd,0,none⟩), .int .i64 0])∧BdAt w' Y (Bd.new n r m)∧(∀k,BdF Y (Bd.new n r m) k→w.heap.size≤k)∧Below w.heap.size w w':=by
 obtain ⟨hn0,hn1,⟨hr0,hr1⟩,hrb,hm0,hm1⟩:=right_of hR
 have hbig:2≤w.heap.size:=by
  have h3:=hg.tab 0 (by decide)
  have:=World.block_lt_of_cell? w _ h3
  exact this
 obtain ⟨w1,hw1,hb1,hk1,hg1,hz1⟩:=plot_box n r m w hg
 have hQ:=right_any n r m (by omega) w1 hg1
 rw [hR] at hQ
 have hWn:chanWords n r≤39648:=chanWords_le (by omega) (by omega)
 have hW1:1≤chanWords n r:=by
  unfold chanWords
  have h1:1≤n*(n-1):=Nat.mul_le_mul (show 1≤n by omega) (show 1≤n-1 by omega)
  exact Nat.mul_le_mul h1 (show 1≤4+11*r by omega)
 have p0:=hk1.cell 0
 have p1:=hk1.cell 1
 have p2:=hk1.cell 2
 simp only [List.getElem?_cons_zero,List.getElem?_cons_succ] at p0 p1 p2
 have hWo:=fun u (hu:Glob u)=>words_any n r m hR u hu
 rw [words_nat n r (by omega)] at hWo
 have hSo:=fun u=>socNew_any n (chanWords n r) m (by omega) (by omega) hW1 (by omega) (by omega) (by omega) u
 have HW:=Lib.hid hw1
 have HQ:=Lib.hid hQ
 have HK:=Lib.hid (And.intro hb1 (And.intro hk1 (And.intro hg1 hz1)))
 have HWO:=Lib.hid hWo
 have HSO:=Lib.hid hSo
 have HR:=Lib.hid hR
 have hn2:2≤n:=by omega
 have hn8:n≤8:=by omega
 clear hw1 hb1 hk1 hg1 hz1 hQ hR hg hWo hSo hrb hWn hW1
 unfold plotV at *
 go_enter Tryz.func5,Tryz.ntmps5
 go_wp2_with fail
 rw [←HW.out]
 go_wp2_with fail
 refine HQ.out.mono ?_
 rintro e w2 ⟨rfl,hb2⟩
 have hk2:=HK.out.2.1.keep (Keep.ofFresh hb2 (B:=0) (F:=fun _=>False)) (fun q=>q)
 have hg2:=HK.out.2.2.1.fresh hb2
 have hS:w2.cell? ⟨w.heap.size,0,none⟩=some (.int .i64 (n:Int))∧w2.cell? ⟨w.heap.size,1,none⟩=some (.int .i64 (r:Int))∧w2.cell? ⟨w.heap.size,2,none⟩=some (.int .i64 (m:Int)):=⟨hk2.cell 0,hk2.cell 1,hk2.cell 2⟩
 have hWO:∀u,Below w2.heap.size w2 u→Calls Tryz.prog 19 #[.agg #[.int .i64 (n:Int), .int .i64 (r:Int), .int .i64 (m:Int)]] u fun e w3=>e= .returned (.int .i64 (chanWords n r:Int))∧Below w2.heap.size w2 w3∧w3.cell? ⟨w.heap.size,0,none⟩=some (.int .i64 (n:Int))∧w3.cell? ⟨w.heap.size,1,none⟩=some (.int .i64 (r:Int))∧w3.cell? ⟨w.heap.size,2,none⟩=some (.int .i64 (m:Int)):=by
  intro u hu
  refine (HWO.out u (hg2.fresh hu)).mono ?_
  rintro e w3 ⟨rfl,hb3⟩
  have hb:=hu.trans (hb3.mono hu.size)
  have hk:=hk2.keep (Keep.ofFresh hb (B:=0) (F:=fun _=>False)) (fun q=>q)
  exact ⟨rfl,hb,hk.cell 0,hk.cell 1,hk.cell 2⟩
 have hSO:∀u,Below w2.heap.size w2 u→Calls Tryz.prog 18 #[.agg #[.int .i64 (n:Int), .int .i64 (chanWords n r:Int), .int .i64 1], .int .i64 (m:Int)] u fun e w3=>∃S:SocL,e= .returned (.tuple #[.pointer (some ⟨S.soc,0,none⟩), .int .i64 0])∧(SocNew u w3 S n (chanWords n r) m∧w2.heap.size≤u.heap.size∧Below w2.heap.size w2 w3)∧w3.cell? ⟨w.heap.size,0,none⟩=some (.int .i64 (n:Int))∧w3.cell? ⟨w.heap.size,1,none⟩=some (.int .i64 (r:Int))∧w3.cell? ⟨w.heap.size,2,none⟩=some (.int .i64 (m:Int)):=by
  intro u hu
  refine (HSO.out u).mono ?_
  rintro e w3 ⟨S,rfl,hN⟩
  have hb:=hu.trans (hN.b.mono hu.size)
  have hk:=hk2.keep (Keep.ofFresh hb (B:=0) (F:=fun _=>False)) (fun q=>q)
  exact ⟨S,rfl,⟨hN,hu.size,hb⟩,hk.cell 0,hk.cell 1,hk.cell 2⟩
 have H19:=Lib.hid hWO
 have H18:=Lib.hid hSO
 have HB2:=Lib.hid (And.intro hb2 (And.intro hk2 hg2))
 clear hWO hSO hb2 hk2 hg2 p0 p1 p2
 go_upto_region 3 with fail
 go_region_held3 (fun u=>u.cell? ⟨w.heap.size,0,none⟩=some (.int .i64 (n:Int))∧u.cell? ⟨w.heap.size,1,none⟩=some (.int .i64 (r:Int))∧u.cell? ⟨w.heap.size,2,none⟩=some (.int .i64 (m:Int))) (first|exact hS|assumption)
  (first|(go_at_call 19;refine (H19.out _ (by first|exact Below.refl _ _|exact (Below.refl _ _).drew)).mono ?_;rintro e w3 ⟨rfl,hb3,hS3⟩;have hB3:=Lib.hid hb3)|(go_at_call 18;refine (H18.out _ hB3.out).mono ?_;rintro e w4 ⟨S,rfl,hN4,hS4⟩;have hN4:=Lib.hid hN4))
 have q0:=cell_alloc (ob:= .cells #[.int .i64 (n:Int), .int .i64 (r:Int), .int .i64 (m:Int), .pointer (some ⟨S.soc,0,none⟩), .slice none 0 0, .slice none 0 0, .int .i64 0] 65) hS4.1
 obtain ⟨p0,p1,p2⟩:=hS4
 go_wp2_with fail
 go_loopw [31] (fun jv u=>∃i:Nat,i≤n∧jv= .int .i64 i∧∃v Z tg,NewIn w u n r m i w4.heap.size S v Z tg)
  (fun jv _=>n-(intOf jv).toNat)
 case atStart=>
  have s01:=HK.out.1.size
  have s12:=HB2.out.1.size
  have s4:=hN4.out.2.2.size
  have su:=hN4.out.2.1
  have ha:Below w4.heap.size w4 (w4.alloc (.cells [.int .i64 (n:Int), .int .i64 (r:Int), .int .i64 (m:Int), .pointer (some ⟨S.soc,0,none⟩),nilS,nilS, .int .i64 0].toArray 65)):=(Below.refl _ _).alloc (Nat.le_refl _) _
  have hbd:=Blk.new w4 65 [.int .i64 (n:Int), .int .i64 (r:Int), .int .i64 (m:Int), .pointer (some ⟨S.soc,0,none⟩),nilS,nilS, .int .i64 0]
  have h24:=hN4.out.2.2
  have h25:=h24.trans (ha.mono h24.size)
  have h15:=HB2.out.1.trans (h25.mono s12)
  have h05:=HK.out.1.trans (h15.mono s01)
  have hz:=HK.out.2.2.2
  have hge:=hN4.out.1.ge
  refine ⟨0,by omega,rfl,nilS,⟨fun _=>nilS,fun _=>nilS,fun _ _=>0,fun _ _=>nilS,fun _ _=>0,fun _ _=>0⟩,fun k=>if k=w4.heap.size then .brd else .soc,⟨h05,HB2.out.2.1.keep (Keep.ofFresh h25 (B:=0) (F:=fun _=>False)) (fun q=>q),hbd,⟨rfl, .inl ⟨rfl,rfl⟩⟩,hN4.out.1.at_.keepAll (Keep.ofFresh ha (B:=0) (F:=fun _=>False)) (fun _ _ q=>q),fun c hc=>by omega,fun c hc=>by omega,fun k q=>⟨by have:=hge k q;omega, ?_⟩,⟨by omega,if_pos rfl⟩,fun k q=>by simp [nilS,Value.ownBlock] at q,HB2.out.2.2.fresh h25,hbig⟩⟩
  have:=hN4.out.1.at_.lt k q
  exact if_neg (by omega)
 case round=>
  obtain ⟨i,hi,rfl,v,Z,tg,hI⟩:=hrel
  by_cases hin:i<n
  ·obtain ⟨A0,q0',hv⟩:=hI.row.slice
   subst hv
   have HG:=Lib.hid (newStage hI HR.out hin)
   have y0:=hI.brd.cell 4
   have y1:=hI.p.cell 0
   have y2:=hI.p.cell 1
   have y3:=hI.p.cell 2
   simp only [List.getElem?_cons_zero,List.getElem?_cons_succ] at y0 y1 y2 y3
   have hi0:(0:Int)≤(i:Int):=by omega
   have hi1:(i:Int)<(n:Int):=by omega
   clear hI q0 p0 p1 p2
   go_upto_region 10 with fail
   go_region_law (first|(refine app_run_step rfl _ _ 63 63 rfl rfl rfl rfl HRUN.out ?_)|(go_simp;go_at_call 20;refine HG.out.mono ?_;rintro e x' ⟨A1,q1,A2,q2,rfl,A7,q7,w7,hr7,⟨z0,z1,z2,z3⟩,za,z7,f7,HST⟩;have HRUN:=Lib.hid hr7;clear hr7;have HST:=Lib.hid HST))
   all_goals (
    obtain ⟨Z',tg',h5⟩:=HST.out
    clear HRUN HST z0 z1 z2 z3 za z7 f7
    have H5:=Lib.hid h5
    clear h5
    generalize w7.setCell ⟨w4.heap.size,4,none⟩ (Value.slice A7 (i+1) q7)=u5 at H5 ⊢
    go_wp2_with fail
    go_roundw
    case rel=>exact ⟨i+1,by omega,by go_num,_,_,_,H5.out⟩
    case measure=>simp [intOf];omega)
  ·have hin2:i=n:=by omega
   subst hin2
   have HF:=Lib.hid (hI.done (by omega))
   clear hI q0 p0 p1 p2
   go_wp2_with fail
   go_ret2
   obtain ⟨Y,hY,h1,h2,h3⟩:=HF.out
   exact ⟨Y,by rw [hY];rfl,h1,h2,h3⟩
def stepE (c:Nat):Ev:=⟨1,c,0,0, []⟩
def runB:Nat→Bd→Nat→Nat→Option (Bd × Int × Int)
 | 0,_,_,_=>none
 | f+1,b,c,n=>
  if (b.do_ (stepE c)).2≠0 then some ((b.do_ (stepE c)).1,0,(b.do_ (stepE c)).2)
  else if ((b.do_ (stepE c)).1.cor c).runs.isSome=true then runB f (b.do_ (stepE c)).1 c (n+1)
  else if ((b.do_ (stepE c)).1.cor c).entry<(b.do_ (stepE c)).1.diary.length then some ((b.do_ (stepE c)).1,n,((b.do_ (stepE c)).1.diary.getD ((b.do_ (stepE c)).1.cor c).entry Ent.none_).err)
  else none
section
variable {w:World} {Y:Lay} {b:Bd}
theorem nilLoad (w:World) (Y:Lay) (b:Bd):LoadOk w Y b nilS []:=⟨.inl ⟨rfl,none,0,rfl⟩,by simp,fun k q _=>by simp [nilS,Value.ownBlock] at q⟩
set_option maxHeartbeats 4000000 in
set_option maxRecDepth 100000 in
theorem bRun_any {L:List Nat} {c F:Nat} (hc:c<b.n) (hG:Good b L) (hN:b.now+F<40000) (hD:b.diary.length≤b.now) (hRt:rightB b.n b.ring b.most=true) (r:Bd × Int × Int) (hr:runB F b c 1=some r) (h:BdAt w Y b):
  Calls Tryz.prog 47 #[ptr Y.bd, .int .i64 c] w fun e w'=>e= .returned (.tuple #[.int .i64 r.2.1, .int .i64 r.2.2])∧BdTo w Y b r.1 w':=by
 have HX:=Lib.hid (And.intro hc (And.intro hG (And.intro hN (And.intro hD (And.intro hRt (And.intro hr h))))))
 have hF:F<40000:=by omega
 obtain ⟨rb,r1,r2⟩:=r
 clear hc hG hN hD hRt hr h
 unfold ptr
 go_enter Tryz.func47,Tryz.ntmps47
 go_wp2_with fail
 go_loopw [6] (fun jv u=>∃n f:Nat,n+f=F+1∧jv= .int .i64 n∧∃b2 L2,BdTo w Y b b2 u∧Good b2 L2∧b2.now+f<40000∧b2.diary.length≤b2.now∧(b2.n=b.n∧b2.ring=b.ring∧b2.most=b.most)∧runB f b2 c n=some (rb,r1,r2))
  (fun jv _=>F+1-(intOf jv).toNat)
 case atStart=>
  obtain ⟨hc,hG,hN,hD,hRt,hr,h⟩:=HX.out
  exact ⟨1,F,by omega,rfl,b,L,BdTo.refl h,hG,hN,hD,⟨rfl,rfl,rfl⟩,hr⟩
 case round=>
  obtain ⟨n,f,hnf,rfl,b2,L2,hT,hG2,hN2,hD2,⟨en,er,em⟩,hr2⟩:=hrel
  obtain ⟨hc,hG,hN,hD,hRt,hr,h⟩:=HX.out
  cases f with
  | zero=>simp [runB] at hr2
  | succ f=>
   obtain ⟨Y2,⟨y1,y2⟩,h2,k2,n2⟩:=hT
   have hDo:=bDo_any (o:=0) (v:=0) (x:=stepE c) hG2 (by omega) hD2 (by rw [en,er,em];exact hRt) (show (1:Int)≠8 by decide) (nilLoad wr Y2 b2) h2
   have hG3:=hG2.do_ (by omega) (stepE c)
   have hnw:=Bd.do_now b2 (stepE c)
   have hln:=do_len b2 (stepE c)
   unfold runB at hr2
   generalize b2.do_ (stepE c)=o at *
   obtain ⟨b3,e3⟩:=o
   simp only at hDo hG3 hnw hln hr2
   unfold evV stepE ptr at hDo
   rw [y1] at hDo
   have HD:=Lib.hid hDo
   have HK:=Lib.hid (And.intro k2 n2)
   have HY:=Lib.hid y2
   clear hDo k2 n2 h2 h hG hN hD hRt hr
   by_cases he:e3=0
   ·subst he
    rw [if_neg (by simp)] at hr2
    go_wp2_with fail
    refine HD.out.mono ?_
    rintro e u3 ⟨rfl,hT3⟩
    have hT4:=BdTo.step ⟨y1,HY.out⟩ HK.out.1 HK.out.2 hT3
    clear hT3
    obtain ⟨Y4,⟨z1,z2⟩,h4,k4,n4⟩:=hT4
    have hb:=bBusy_any (show c<b3.n by rw [hnw.2.1,en];exact hc) h4
    unfold ptr at hb
    rw [z1] at hb
    have HB:=Lib.hid hb
    have HT4:=Lib.hid (show BdTo w Y b b3 u3 from ⟨Y4,⟨z1,z2⟩,h4,k4,n4⟩)
    by_cases hbz:(b3.cor c).runs.isSome=true
    ·rw [if_pos hbz] at hr2
     rw [hbz] at HB
     have HH:=Lib.hid hr2
     have HG3:=Lib.hid hG3
     clear hb hr2 h4 k4 n4 hG3 hG2
     go_wp2_with fail
     refine HB.out.mono ?_
     rintro e w' ⟨rfl,rfl⟩
     go_wp2_with fail
     go_roundw
     case rel=>exact ⟨n+1,f,by omega,by go_num,b3,_,HT4.out,HG3.out,by omega,by omega,⟨by omega,by omega,by omega⟩,HH.out⟩
     case measure=>simp [intOf];omega
    ·have hbf:(b3.cor c).runs.isSome=false:=by simpa using hbz
     rw [if_neg hbz] at hr2
     rw [hbf] at HB
     by_cases hen:(b3.cor c).entry<b3.diary.length
     ·rw [if_pos hen] at hr2
      injection hr2 with hr2
      have q1:rb=b3:=congrArg Prod.fst hr2.symm
      have q2:r1=(n:Int):=congrArg (fun z=>z.2.1) hr2.symm
      have q3:r2=(b3.diary.getD (b3.cor c).entry Ent.none_).err:=congrArg (fun z=>z.2.2) hr2.symm
      subst q1 q2 q3
      have rc:=h4.runCells (show c<rb.n by rw [hnw.2.1,en];exact hc)
      obtain ⟨dg,dc,hv,hdc,_,_,e5,_⟩:=h4.entCell hen
      obtain ⟨_,m3,_,m4,m5,_⟩:=rc
      rw [z1,z2] at m4
      rw [z1,hv] at m5
      rw [z2] at m3
      have hc0:(0:Int)≤(c:Int):=by omega
      have hc1:(c:Int)<(rb.n:Int):=by have:=hnw.2.1;omega
      have hi0:(0:Int)≤((rb.cor c).entry:Int):=by omega
      have hi1:((rb.cor c).entry:Int)<(rb.diary.length:Int):=by omega
      obtain ⟨er5,her⟩:∃z,z=(rb.diary.getD (rb.cor c).entry Ent.none_).err:=⟨_,rfl⟩
      rw [←her] at e5
      have HER:=Lib.hid her
      clear her hb h4 k4 n4 hG3 hG2 hr2
      go_wp2_with fail
      refine HB.out.mono ?_
      rintro e w' ⟨rfl,rfl⟩
      go_wp2_with fail
      go_region
      go_wp2_with fail
      go_ret2
      refine ⟨?_,HT4.out.fresh (Below.refl _ _).drew⟩
      rw [←HER.out]
      rfl
     ·rw [if_neg hen] at hr2
      cases hr2
   ·rw [if_pos he] at hr2
    injection hr2 with hr2
    have q1:rb=b3:=congrArg Prod.fst hr2.symm
    have q2:r1=0:=congrArg (fun z=>z.2.1) hr2.symm
    have q3:r2=e3:=congrArg (fun z=>z.2.2) hr2.symm
    subst q1 q2 q3
    have n0:(r2 != 0)=true:=by simpa using he
    clear hr2 hG2 hG3
    go_wp2_with fail
    refine HD.out.mono ?_
    rintro e u3 ⟨rfl,hT3⟩
    have HT4:=Lib.hid (BdTo.step ⟨y1,HY.out⟩ HK.out.1 HK.out.2 hT3)
    clear hT3
    go_wp2_with fail
    go_ret2
    exact ⟨rfl,HT4.out⟩
end
def callB (F:Nat) (b:Bd) (x:Ev) (c:Nat):Option (Bd × Int):=
 if (b.do_ x).2≠0 then some ((b.do_ x).1,(b.do_ x).2) else (runB F (b.do_ x).1 c 1).map fun r=>(r.1,r.2.2)
def al1:Option (Bd × Int):=callB 200 (Bd.new 2 2 2) ⟨3,0,1,0, [3,4]⟩ 0
def al2 (b:Bd):Option (Bd × Int):=callB 200 b ⟨4,1,0,0, []⟩ 1
def al3 (b:Bd):Option (Bd × Int):=callB 200 b ⟨5,1,0,64, []⟩ 1
def alAll:Option (Int × Int × Int × Int × Nat × Bool):=
 al1.bind fun r1=>(al2 r1.1).bind fun r2=>(al3 r2.1).bind fun r3=>(al2 r3.1).map fun r4=>(r1.2,r2.2,r3.2,r4.2,r4.1.diary.length,r4.1.diary.all fun e=>decide (e.load.length≤1000))
theorem alAll_eq:alAll=some (0,0,0,6,4,true):=by kernel_rfl
section
variable {w:World} {Y:Lay} {b:Bd} {x:Ev} {lv:Value} {o v:Int}
set_option maxRecDepth 100000 in
theorem cCall_any {L:List Nat} {F c:Nat} (hG:Good b L) (hN:b.now+1+F<40000) (hD:b.diary.length≤b.now) (hRt:rightB b.n b.ring b.most=true) (hk:x.kind≠8) (hl:LoadOk w Y b lv x.load) (hcx:x.core=c) (hc:c<b.n) (r:Bd × Int) (hr:callB F b x c=some r) (h:BdAt w Y b):
  Calls Tryz.prog 21 #[ptr Y.bd,evV x lv o v] w fun e w'=>e= .returned (.int .i64 r.2)∧BdTo w Y b r.1 w':=by
 obtain ⟨w1,hw1,hb1,he1,h1⟩:=ev_box x lv o v h
 have HW:=Lib.hid hw1
 have ev0:=he1.cell 0
 have ev1:=he1.cell 1
 have ev2:=he1.cell 2
 have ev3:=he1.cell 3
 have ev4:=he1.cell 4
 have ev5:=he1.cell 5
 have ev6:=he1.cell 6
 simp only [evCells,List.getElem?_cons_zero,List.getElem?_cons_succ] at ev0 ev1 ev2 ev3 ev4 ev5 ev6
 have hl1:LoadOk w1 Y b lv x.load:=⟨hl.read.fresh hb1,hl.len,fun k q z=>⟨Nat.lt_of_lt_of_le (hl.own k q z).1 hb1.size,(hl.own k q z).2⟩⟩
 have hDo:=bDo_any (o:=o) (v:=v) hG (by omega) hD hRt hk hl1 h1
 have hnf: ¬BdF Y b w.heap.size:=fun q=>by have:=h.lt _ q;omega
 have HK:=Lib.hid (And.intro he1 (And.intro hb1 hnf))
 have hG3:=hG.do_ (by omega) x
 have hnw:=Bd.do_now b x
 have hln:=do_len b x
 unfold callB at hr
 generalize b.do_ x=oo at *
 obtain ⟨b3,e3⟩:=oo
 simp only at hDo hG3 hnw hln hr
 obtain ⟨kind,core,peer,hd,load⟩:=x
 simp only at hcx hk
 subst hcx
 unfold evV ptr at hDo
 have HD:=Lib.hid hDo
 clear hDo hl hl1 hw1 he1 hb1 h1 hnf h
 unfold evV ptr
 by_cases he:e3=0
 ·subst he
  rw [if_neg (by simp)] at hr
  obtain ⟨r1,hr1,hr2⟩:=Option.map_eq_some_iff.1 hr
  subst hr2
  go_enter Tryz.func21,Tryz.ntmps21
  go_wp2_with fail
  rw [←HW.out]
  go_wp2_with fail
  refine HD.out.mono ?_
  rintro e u3 ⟨rfl,hT3⟩
  obtain ⟨Y4,⟨z1,z2⟩,h4,k4,n4⟩:=hT3
  have he3:=HK.out.1.keep k4 HK.out.2.2
  have hR:=bRun_any (F:=F) (show c<b3.n by rw [hnw.2.1];exact hc) hG3 (by omega) (by omega) (by rw [hnw.2.1,hnw.2.2.1,hnw.2.2.2];exact hRt) r1 hr1 h4
  unfold ptr at hR
  rw [z1] at hR
  have HR:=Lib.hid hR
  have m1:=he3.cell 1
  simp only [evCells,List.getElem?_cons_zero,List.getElem?_cons_succ] at m1
  have HT:=Lib.hid (And.intro z1 (And.intro z2 (And.intro k4 n4)))
  clear hR h4 k4 n4 hr hr1 hG hG3 ev0 ev1 ev2 ev3 ev4 ev5 ev6 z1 z2 he3
  go_wp2_with fail
  refine HR.out.mono ?_
  rintro e u5 ⟨rfl,hT5⟩
  have HF:=Lib.hid (BdTo.from_ HK.out.2.1 (BdTo.step ⟨HT.out.1,HT.out.2.1⟩ HT.out.2.2.1 HT.out.2.2.2 hT5))
  clear hT5
  go_wp2_with fail
  go_ret
  exact ⟨rfl,HF.out⟩
 ·rw [if_pos he] at hr
  injection hr with hr
  subst hr
  have n0:(e3 != 0)=true:=by simpa using he
  go_enter Tryz.func21,Tryz.ntmps21
  go_wp2_with fail
  rw [←HW.out]
  go_wp2_with fail
  refine HD.out.mono ?_
  rintro e u3 ⟨rfl,hT3⟩
  have HT3:=Lib.hid (BdTo.from_ HK.out.2.1 hT3)
  clear hT3
  go_wp2_with fail
  go_ret
  exact ⟨rfl,HT3.out⟩
end
theorem sl35_some (ad:Addr) (n c:Nat) (w:World):(binOp .eql 35 (.slice (some ad) n c) (.slice none 0 0)).run Tryz.prog w= .ok (.bool false) w:=by kernel_rfl
theorem sl35_none (n c:Nat) (w:World):(binOp .eql 35 (.slice none n c) (.slice none 0 0)).run Tryz.prog w= .ok (.bool true) w:=by kernel_rfl
set_option maxRecDepth 100000 in
theorem dclone_some (g c n:Nat) (xs:List Value) (hxl:xs.length=n*8) (hlen:n≤50000) (w:World) (hg:0<n→g<w.heap.size) (hcell:∀j,j<n*8→w.cell? ⟨g,j,none⟩=xs[j]?) (hone:∀u∈xs,u.oneCell'=true):
  Calls Tryz.prog 29 #[.slice (some ⟨g,0,none⟩) n c] w fun e w'=>∃v',e= .returned v'∧Row w' 82 8 v' n xs∧(∀k,v'.ownBlock=some k→w.heap.size≤k)∧Below w.heap.size w w':=by
 have hs:=sl35_some
 have hb1:Below w.heap.size w (w.alloc (.cells #[] 82)):=(Below.refl _ w).alloc (Nat.le_refl _) _
 have hrow:Row (w.alloc (.cells #[] 82)) 82 8 (.slice (some ⟨w.heap.size,0,none⟩) 0 0) 0 []:=Row.empty (cur:= []) (Blk.new w 82 []) (by simp) (by unfold maxLen;omega)
 have hnews:∀j u,xs[j]? = some u→(w.alloc (.cells #[] 82)).cell? (Addr.add ⟨g,0,none⟩ j)=some u:=by
  intro j u hu
  have hj:j<n*8:=by
   have:=(List.getElem?_eq_some_iff.1 hu).1
   omega
  rw [add_lit,Nat.zero_add]
  have:((⟨g,j,none⟩:Addr)).block<w.heap.size:=hg (by omega)
  rw [hb1.cell this,hcell j hj]
  exact hu
 have HB:=Lib.hid (And.intro hb1 (And.intro hrow hnews));clear hb1 hrow hnews hcell
 go_enter Tryz.func29,Tryz.ntmps29
 go_wp2_with (at_builtin;refine app_list rfl _ _ 35 82 (.agg #[.int .i64 0, .int .i64 0, .int .i64 0, .int .i64 0, .int .i64 0, .int .i64 0, .slice none 0 0, .int .i64 0]) 8 80 rfl under35 info82 rfl (by decide) (.slice (some ⟨w.heap.size,0,none⟩) 0 0) 0 [] HB.out.2.1 ⟨g,0,none⟩ n c xs rfl rfl hxl HB.out.2.2 hone (by unfold maxLen;omega) (by omega) ?_;intro v1 w1 hR1 hg1 hat1)
 go_ret
 refine ⟨v1,rfl,by simpa using hR1,fun k hk=> ?_,HB.out.1.grown hg1 HB.out.1.size (fun k hk=>by simp [Value.ownBlock] at hk;omega)⟩
 rcases hat1 with e|⟨b,e,hb⟩
 ·rw [e] at hk;simp [Value.ownBlock] at hk;omega
 ·rw [e] at hk;injection hk with hk;simp at hb;omega
theorem dclone_any {w:World} {v:Value} {n:Nat} {xs:List Value} (h:RowZ w 82 8 v n xs) (hlen:n≤50000) (hone:∀u∈xs,u.oneCell'=true):
  Calls Tryz.prog 29 #[v] w fun e w'=>∃v',e= .returned v'∧Row w' 82 8 v' n xs∧(∀k,v'.ownBlock=some k→w.heap.size≤k)∧Below w.heap.size w w':=by
 by_cases hn:0<n
 ·obtain ⟨g,c,hv,hc,⟨cur,hcur⟩,hcell⟩:=h.cells hn
  subst hv
  exact dclone_some g c n xs h.1 hlen w (fun _=>hcur.lt) (fun j hj=>(hcell j hj).1) hone
 ·have hn0:n=0:=by omega
  subst hn0
  have hx:xs= []:=List.eq_nil_of_length_eq_zero (by have:=h.1;simpa using this)
  subst hx
  rcases h.2 with ⟨rfl,_⟩|⟨g,cap,cur,rfl,h0,hg,_⟩
  ·have hs:=sl35_none
   go_enter Tryz.func29,Tryz.ntmps29
   go_wp2_with fail
   go_ret
   exact ⟨_,rfl,Row.nil _ _ _,fun k hk=>by simp [Value.ownBlock] at hk,Below.refl _ _⟩
  ·exact dclone_some g cap 0 [] (by simp) hlen w (fun q=>by omega) (fun j hj=>by omega) hone
structure DiaAt (w u:World) (v:Value) (d:List Ent) (dl:Nat→Value):Prop where
 b:Below w.heap.size w u
 row:Row u 82 8 v d.length (diaCells dl d)
 loads:∀j,j<d.length→RowI u (dl j) (d.getD j Ent.none_).load
 own:∀k,v.ownBlock=some k→w.heap.size≤k
theorem DiaAt.fresh {w u u':World} {v:Value} {d:List Ent} {dl:Nat→Value} (h:DiaAt w u v d dl) (hb:Below u.heap.size u u'):DiaAt w u' v d dl:=
 ⟨h.b.trans (hb.mono h.b.size),Row.below h.row hb,fun j hj=>Row.below (h.loads j hj) hb,h.own⟩
theorem diaCells_one (dl:Nat→Value) (d:List Ent) (hd:∀j,j<d.length→(dl j).oneCell'=true):∀u∈diaCells dl d,u.oneCell'=true:=by
 intro u hu
 unfold diaCells at hu
 rw [List.mem_flatMap] at hu
 obtain ⟨k,hk,hu⟩:=hu
 have hk:=List.mem_range.1 hk
 simp only [entCells,List.mem_cons,List.not_mem_nil,or_false] at hu
 rcases hu with rfl|rfl|rfl|rfl|rfl|rfl|rfl|rfl<;>first|rfl|exact hd k hk
theorem DiaAt.put {w u:World} {v:Value} {d:List Ent} {dl:Nat→Value} {g off c:Nat} (h:DiaAt w u v d dl) (hv:v= .slice (some ⟨g,off,none⟩) d.length c) {i:Nat} (hi:i<d.length) {l:Value} (hl:RowI u l (d.getD i Ent.none_).load):
  DiaAt w (u.setCell ⟨g,off+(i*8+6),none⟩ l) v d (upd dl i l):=by
 have hr:=h.row
 rw [hv] at hr
 obtain ⟨cur,hcur⟩:=Row.typed hr g rfl
 have h1:=Row.set hr (i*8+6) (by omega) l
 rw [diaCells_set dl (upd dl i l) d hi (by omega) l (d.getD i Ent.none_) (by rw [upd_same];rfl) (fun k hk=>upd_other _ _ _ _ hk)] at h1
 have e:d.set i (d.getD i Ent.none_)=d:=by
  apply List.ext_getElem?
  intro j
  rw [List.getElem?_set]
  by_cases q:i=j
  ·subst q
   rw [if_pos rfl,if_pos hi,List.getD_eq_getElem?_getD,List.getElem?_eq_getElem hi]
   rfl
  ·rw [if_neg q]
 rw [e] at h1
 have hg:w.heap.size≤g:=h.own g (by rw [hv];rfl)
 refine ⟨h.b.setCell (p:=⟨g,off+(i*8+6),none⟩) hg _,by rw [hv];exact h1,fun j hj=> ?_,h.own⟩
 by_cases q:j=i
 ·subst q;rw [upd_same];exact Row.far hl hcur (by decide) _ _
 ·rw [upd_other _ _ _ _ q];exact Row.far (h.loads j hj) hcur (by decide) _ _
set_option maxHeartbeats 2000000 in
set_option maxRecDepth 100000 in
theorem bDiary_any {w:World} {Y:Lay} {b:Bd} (hD:b.diary.length≤50000) (hL:∀j,j<b.diary.length→(b.diary.getD j Ent.none_).load.length≤1000) (h:BdAt w Y b):
  Calls Tryz.prog 9 #[ptr Y.bd] w fun e w'=>∃v dl,e= .returned v∧DiaAt w w' v b.diary dl:=by
 have c5:=h.board.cell 5
 simp only [List.getElem?_cons_zero,List.getElem?_cons_succ] at c5
 have hone:=diaCells_one Y.dl b.diary (fun j hj=>by obtain ⟨A,c,hv,_⟩:=Row.slice (h.loads j hj);rw [hv];rfl)
 have HC:=Lib.hid (dclone_any h.diary hD hone)
 have HL:=Lib.hid (And.intro h.loads hL)
 have HDD:=Lib.hid hD
 clear hone h hL hD
 unfold ptr
 go_enter Tryz.func9,Tryz.ntmps9
 go_wp2_with fail
 refine HC.out.mono ?_
 rintro e w1 ⟨v,rfl,hr,hf,hb⟩
 have h0:DiaAt w w1 v b.diary Y.dl:=⟨hb,hr,fun j hj=>Row.below (HL.out.1 j hj) hb,hf⟩
 obtain ⟨A,q,hv, -, -⟩:=Row.slice hr
 subst hv
 have H0:=Lib.hid h0
 clear hr hf hb h0
 go_wp2_with fail
 go_loopw [15] (fun jv u=>∃i:Nat,i≤b.diary.length∧jv= .int .i64 i∧∃dl,DiaAt w u (.slice A b.diary.length q) b.diary dl)
  (fun jv _=>b.diary.length-(intOf jv).toNat)
 case atStart=>exact ⟨0,by omega,rfl,Y.dl,H0.out⟩
 case round=>
  obtain ⟨i,hi,rfl,dl,hI⟩:=hrel
  by_cases hin:i<b.diary.length
  ·obtain ⟨g,off,c,hv,hc1,hc2,hcell⟩:=Row.cells hI.row (by omega)
   injection hv with hA _ hq
   subst hA hq
   have hx:∀r,r<8→wr.cell? ⟨g,off+i*8+r,none⟩=(entCells (b.diary.getD i Ent.none_) (dl i))[r]? ∧ wr.frozen? ⟨g,off+i*8+r,none⟩=false:=fun r hr=>by
    have:=hcell (i*8+r) (by omega)
    rw [Nat.add_assoc]
    exact ⟨by rw [this.1,diaCells_get _ _ hin hr],this.2⟩
   obtain ⟨Ai,qi,hdi, -, -⟩:=Row.slice (hI.loads i hin)
   have hli:=hI.loads i hin
   obtain ⟨en,hen⟩:∃en,en=b.diary.getD i Ent.none_:=⟨_,rfl⟩
   rw [←hen] at hx hdi hli
   have x0:=(hx 0 (by omega)).1
   have x1:=(hx 1 (by omega)).1
   have x2:=(hx 2 (by omega)).1
   have x3:=(hx 3 (by omega)).1
   have x4:=(hx 4 (by omega)).1
   have x5:=(hx 5 (by omega)).1
   have x6:=(hx 6 (by omega)).1
   have x7:=(hx 7 (by omega)).1
   rw [hdi] at x0 x1 x2 x3 x4 x5 x6 x7 hli
   simp only [entCells,List.getElem?_cons_zero,List.getElem?_cons_succ,Nat.add_zero] at x0 x1 x2 x3 x4 x5 x6 x7
   have hlen:en.load.length≤1000:=by rw [hen];exact HL.out.2 i hin
   have HCL:=Lib.hid (fun u (hu:ReadI u (.slice Ai en.load.length qi) en.load)=>clone_any (.slice Ai en.load.length qi) en.load hlen u hu)
   have HI:=Lib.hid (And.intro hI (And.intro hli hen))
   have hD:=HDD.out
   have hi0:(0:Int)≤(i:Int):=by omega
   have hi1:(i:Int)<(b.diary.length:Int):=by omega
   clear hI hli hen hx hcell hdi hlen
   go_wp2_with fail
   have hba:Below wr.heap.size wr (wr.alloc (.cells #[.int .i64 (en.core:Int), .int .i64 (en.peer:Int), .int .i64 (en.kind:Int), .int .i64 (en.bgn:Int), .int .i64 (en.fin:Int), .int .i64 en.err, .slice Ai en.load.length qi, .int .i64 en.handle] 82)):=(Below.refl _ _).alloc (Nat.le_refl _) _
   refine (HCL.out _ (ReadI.fresh (RowI.read HI.out.2.1) hba)).mono ?_
   rintro e w2 ⟨v2,rfl,hv2,hf2,hb2⟩
   obtain ⟨A2,q2,hv2e, -, -⟩:=Row.slice hv2
   subst hv2e
   have hI2:=(HI.out.1.fresh hba).fresh hb2
   obtain ⟨g',off',c',hv', -, -,hcell'⟩:=Row.cells hI2.row (by omega)
   injection hv' with hA' _ hq'
   injection hA' with hA'
   injection hA' with hg' ho'
   subst hg' ho' hq'
   have m6:=hcell' (i*8+6) (by omega)
   rw [diaCells_get _ _ hin (by omega), ←Nat.add_assoc] at m6
   obtain ⟨m6a,m6b⟩:=m6
   simp only [entCells,List.getElem?_cons_zero,List.getElem?_cons_succ] at m6a
   have hp:=hI2.put rfl hin (l:= .slice A2 en.load.length q2) (by rw [←HI.out.2.2];exact hv2)
   rw [←Nat.add_assoc] at hp
   have HP:=Lib.hid hp
   clear hp hI2 hcell' hv2 hf2 hb2 hba x0 x1 x2 x3 x4 x5 x6 x7
   go_wp2_with fail
   go_roundw
   case rel=>exact ⟨i+1,by omega,by go_num,_,HP.out⟩
   case measure=>simp [intOf];omega
  ·have hin2:i=b.diary.length:=by omega
   subst hin2
   have HI:=Lib.hid hI
   clear hI
   go_wp2_with fail
   go_ret
   exact ⟨_,_,rfl,HI.out⟩
end Go.Proofs.YtaaffebnajjfhaaGreatDoor.T
