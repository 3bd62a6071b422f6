/- Texts of this proof, merged: Brd14. -/
import Derived.Test.YtaaffebnajjfhaaGreatDoorH30
namespace Go.Proofs.YtaaffebnajjfhaaGreatDoor.T
set_option linter.unusedVariables false
set_option linter.unusedSimpArgs false
set_option linter.unusedSectionVars false
open Go.RowKit
section
variable {w:World} {Y:Lay} {b:Bd} {x:Ev} {lv:Value} {o v:Int}
theorem upd_eta {α : Type} (f:Nat→ α) (a:Nat):upd f a (f a)=f:=by
 funext i
 by_cases e:i=a
 ·subst e;exact upd_same _ _ _
 ·exact upd_other _ _ _ _ e
theorem setCor_giv (b:Bd) (c p:Nat):b.setCor c { b.cor c with giv:=upd (b.cor c).giv p ((b.cor c).giv p) }=b:=by
 rw [upd_eta]
 show ({ b with cor:=upd b.cor c (b.cor c) }:Bd)=b
 rw [upd_eta]
theorem setCor_tak (b:Bd) (c p:Nat):b.setCor c { b.cor c with tak:=upd (b.cor c).tak p ((b.cor c).tak p) }=b:=by
 rw [upd_eta]
 show ({ b with cor:=upd b.cor c (b.cor c) }:Bd)=b
 rw [upd_eta]
set_option maxHeartbeats 2000000 in
set_option maxRecDepth 100000 in
theorem bCall_sendErr {c p:Nat} (hcx:x.core=c) (hpx:x.peer=p) (hki:x.kind=3) (hc:c<b.n) (hp:p<b.n) (hpc:p≠c) (hup:b.upb c=true) (hrun:(b.cor c).runs=none) (hD:b.diary.length≤100000) (hlen:x.load.length≤1000) (hl:ReadI w lv x.load) (hlv:∀k,lv.ownBlock=some k→0<x.load.length→ ¬BdF Y b k)
  (hs:(((b.cor c).giv p).send x.load).2≠0) (h:BdAt w Y b):
  Calls Tryz.prog 24 #[ptr Y.bd,evV x lv o v] w fun e w'=>e= .returned (.int .i64 (((b.cor c).giv p).send x.load).2)∧BdTo w Y b b w':=by
 have hh:b.has x.core:=⟨by omega,by omega⟩
 have hh2:b.has x.peer:=⟨by omega,by omega⟩
 have hu:b.up x.core.toNat:=(upb_up b _).1 (by rw [hcx];exact hup)
 obtain ⟨w1,hw1,hb1,he1,h1⟩:=ev_box x lv o v h
 have HW:=Lib.hid hw1
 have ev0:=he1.cell 0
 have ev1:=he1.cell 1
 have ev2:=he1.cell 2
 have ev3:=he1.cell 3
 have ev4:=he1.cell 4
 simp only [evCells,List.getElem?_cons_zero,List.getElem?_cons_succ] at ev0 ev1 ev2 ev3 ev4
 have c4:=h1.board.cell 4
 simp only [List.getElem?_cons_zero,List.getElem?_cons_succ] at c4
 have hH:=bHas_any x.core h1
 rw [decide_eq_true hh] at hH
 have HH:=Lib.hid hH
 have hP:=bHas_any x.peer h1
 rw [decide_eq_true hh2] at hP
 have HP:=Lib.hid hP
 have hR:=bReady_any x.core h1
 have hr:b.readyR x.core=0:=by unfold Bd.readyR;rw [if_pos hh,if_pos hu]
 rw [hr] at hR
 have HR:=Lib.hid hR
 have cr:=(h1.runCells hc).1
 rw [hrun] at cr
 replace cr:w1.cell? ⟨Y.cg,c*4+2,none⟩=some .nilIface:=cr
 have cn:=h1.board.cell 6
 simp only [List.getElem?_cons_zero,List.getElem?_cons_succ] at cn
 have hin:=nil_nne
 have hbz:Below w1.heap.size w1 (w1.alloc (.cells entZ.toArray 82)):=(Below.refl _ _).alloc (Nat.le_refl _) _
 have cnz:=(h1.fresh hbz).board.cell 6
 have hez:=he1.keep (Keep.ofFresh hbz (B:=0) (F:=fun _=>False)) (fun q=>q)
 have evz0:=hez.cell 0
 have evz1:=hez.cell 1
 have evz2:=hez.cell 2
 have hzz:=Blk.new w1 82 entZ
 have zz0:=hzz.cell 0
 have zz1:=hzz.cell 1
 have zz2:=hzz.cell 2
 have zz3:=hzz.cell 3
 have zz4:=hzz.cell 4
 have zz5:=hzz.cell 5
 have zz6:=hzz.cell 6
 have zz7:=hzz.cell 7
 have zf0:=hzz.free 0
 have zf1:=hzz.free 1
 have zf2:=hzz.free 2
 have zf3:=hzz.free 3
 have zf4:=hzz.free 4
 have zf5:=hzz.free 5
 have zf6:=hzz.free 6
 have zf7:=hzz.free 7
 simp only [entZ,evCells,List.getElem?_cons_zero,List.getElem?_cons_succ] at cnz evz0 evz1 evz2 zz0 zz1 zz2 zz3 zz4 zz5 zz6 zz7 zf0 zf1 zf2 zf3 zf4 zf5 zf6 zf7
 clear hez hzz hbz
 obtain ⟨w2,hw2,hb2,he2,hy2,h2⟩:∃w2,w2=(w1.alloc (.cells #[.int .i64 (c:Int), .int .i64 (p:Int), .int .i64 1, .int .i64 (b.now:Int), .int .i64 0, .int .i64 0, .slice none 0 0, .int .i64 0] 82)).drew.drew∧Below w.heap.size w w2∧Blk w2 w.heap.size 33 (evCells x lv o v)∧Blk w2 w1.heap.size 82 (entCells ⟨c,p,1,b.now,0,0, [],0⟩ (.slice none 0 0))∧BdAt w2 Y b:=by
  have hbz:Below w1.heap.size w1 (w1.alloc (.cells (entCells ⟨c,p,1,b.now,0,0, [],0⟩ (.slice none 0 0)).toArray 82)).drew.drew:=(((Below.refl _ _).alloc (Nat.le_refl _) _).drew).drew
  exact ⟨_,rfl,((hb1.alloc hb1.size _).drew).drew,(he1.keep (Keep.ofFresh hbz (B:=0) (F:=fun _=>False)) (fun q=>q)),Blk.new w1 82 (entCells ⟨c,p,1,b.now,0,0, [],0⟩ (.slice none 0 0)),h1.fresh hbz⟩
 have HW2:=Lib.hid hw2
 obtain ⟨g1,c1,g2,c2,cg0,cg1,cg2,cg3⟩:=h2.givCell hc hp hpc hup
 have ex2:=he2.cell 2
 have ex4:=he2.cell 4
 have ex0:=he2.cell 0
 simp only [evCells,List.getElem?_cons_zero,List.getElem?_cons_succ] at ex0 ex2 ex4
 have hb1':b.setCor c { b.cor c with giv:=upd (b.cor c).giv p (((b.cor c).giv p).send x.load).1 }=b:=by rw [send_err hs];exact setCor_giv b c p
 generalize her:(((b.cor c).giv p).send x.load).2=er at *
 have hS:∀u,Below w.heap.size w u→Calls Tryz.prog 52 #[.pointer (some ⟨Y.gb c p,0,none⟩),lv] u fun e w'=>e= .returned (.int .i64 er)∧BdSame u Y b b w'∧(∀k ty cs,Blk u k ty cs→w.heap.size≤k→Blk w' k ty cs)∧ReadI w' lv x.load:=by
  intro u hbu
  have hu1:=h.fresh hbu
  refine (gSend_any _ _ _ _ _ lv x.load hlen u (hu1.giv c p hc hp hpc hup) (hl.fresh hbu)).mono ?_
  rintro e w' ⟨he,hT⟩
  rw [her] at he
  have hT2:=hu1.gsent hc hp hpc hup hT
  rw [hb1'] at hT2
  have hT3:=hT2
  obtain ⟨Y',hY,hZ,t1,t2,t3⟩:=hT2
  have hnf:∀k,w.heap.size≤k→ ¬BdF Y b k:=fun k hk q=>by have:=h.lt k q;omega
  exact ⟨he,hT3,fun k ty cs hb hk=>hb.keep t2 (hnf k hk),(hl.fresh hbu).keep t2 hlv⟩
 have HC:=Lib.hid (fun u (hu:ReadI u lv x.load)=>clone_any lv x.load hlen u hu)
 have HS:=Lib.hid hS
 obtain ⟨kind,core,peer,hd,load⟩:=x
 have e0:(er == 0)=false:=by simpa using hs
 have e0':(er != 0)=true:=by simpa using hs
 simp only at hcx hpx hki HS HC hlen hl
 subst hcx
 subst hpx
 subst hki
 have HB2:=Lib.hid (And.intro hb2 (And.intro he2 (And.intro hy2 (And.intro hb1.size hD))))
 have HH0:=Lib.hid h
 have hc0:(0:Int)≤(c:Int):=by omega
 have hc1:(c:Int)<(b.n:Int):=by omega
 have hp0:(0:Int)≤(p:Int):=by omega
 have hp1:(p:Int)<(b.n:Int):=by omega
 have hpc': ¬(c:Int)=(p:Int):=by omega
 clear her hw1 hb1 he1 h1 h hw2 hb2 he2 hy2 h2 hH hP hR hr hh hh2 hu hrun hS hl hlv hs hlen hup hb1' hD
 unfold ptr evV at *
 go_enter Tryz.func24,Tryz.ntmps24
 go_wp2_with fail
 rw [←HW.out]
 refine HH.out.mono ?_
 rintro e w' ⟨rfl,rfl⟩
 go_wp2_with fail
 refine HP.out.mono ?_
 rintro e w' ⟨rfl,rfl⟩
 go_wp2_with fail
 refine HR.out.mono ?_
 rintro e w' ⟨rfl,rfl⟩
 go_wp2_with fail
 go_region
 go_wp2_with fail
 go_region
 rw [←HW2.out]
 clear zz0 zz1 zz2 zz3 zz4 zz5 zz6 zz7 zf0 zf1 zf2 zf3 zf4 zf5 zf6 zf7 evz0 evz1 evz2 cnz cr c4 ev0 ev1 ev2 ev3 ev4 cn HH HP HR
 go_wp2_with fail
 go_quiet (fail)
 go_wp2_with fail
 refine (HS.out _ (belowN HB2.out.1 _)).mono ?_
 rintro e w3 ⟨rfl,hT3,hK3,hR3⟩
 have hev3:=hK3 _ _ _ (blkN HB2.out.2.1 _) (Nat.le_refl _)
 have hen3:=hK3 _ _ _ (blkN HB2.out.2.2.1 _) HB2.out.2.2.2.1
 have ex4:=hev3.cell 4
 simp only [evCells,List.getElem?_cons_zero,List.getElem?_cons_succ] at ex4
 have HT3:=Lib.hid hT3
 have HN3:=Lib.hid hen3
 clear hT3 hK3 hev3 hen3 cg0 cg1 cg2 cg3 ex0 ex2
 go_wp2_with fail
 refine (HC.out _ hR3).mono ?_
 rintro e w4 ⟨v4,rfl,hv4,hv4f,hb4⟩
 obtain ⟨A4,q4,hv4e, -, -⟩:=Row.slice hv4
 subst hv4e
 have hen4:=HN3.out.keep (Keep.ofFresh hb4 (B:=0) (F:=fun _=>False)) (fun q=>q)
 have y6:=hen4.cell 6
 have f6:=hen4.free 6
 simp only [entCells,List.getElem?_cons_zero,List.getElem?_cons_succ] at y6
 have hv5:=Row.far hv4 hen4 (by decide) 6 (Value.slice A4 load.length q4)
 have hen5:=hen4.set 6 (Value.slice A4 load.length q4)
 have hk5:Keep (fun k=>k=w1.heap.size) w3 (w4.setCell ⟨w1.heap.size,6,none⟩ (Value.slice A4 load.length q4)):=Keep.setCell (F:=fun k=>k=w1.heap.size) (p:=⟨w1.heap.size,6,none⟩) (Keep.ofFresh hb4 (B:=0)) (fun _=>rfl) _
 obtain ⟨Y1,⟨ybd,ycg⟩,⟨ygb,ytk⟩,h5,k5,n5,s3,s5,o5⟩:=BdSame.later HH0.out (belowN HB2.out.1 _) HT3.out HB2.out.2.2.2.1 HB2.out.2.2.1.lt hk5
 have H5:=Lib.hid h5
 have HK5:=Lib.hid (And.intro hv5 (And.intro hen5 (And.intro k5 (And.intro n5 (And.intro o5 (And.intro hv4f (And.intro s3 s5)))))))
 clear h5 hv5 hen5 hk5 k5 n5 o5 hv4f s3 s5 hv4 hen4 hb4 hR3 ex4
 go_upto_region 22 with fail
 generalize w4.setCell ⟨w1.heap.size,6,none⟩ (Value.slice A4 load.length q4)=w5 at *
 have hFIN:=Lib.hid (show BdTo w Y b b w5 from ⟨Y1,⟨ybd,ycg⟩,H5.out,HK5.out.2.2.1,HK5.out.2.2.2.1⟩)
 clear HK5 H5
 go_wp2_with fail
 go_ret
 exact ⟨rfl,hFIN.out⟩
set_option maxHeartbeats 2000000 in
set_option maxRecDepth 100000 in
theorem bCall_recvErr {c p:Nat} (hcx:x.core=c) (hpx:x.peer=p) (hki:x.kind=4) (hc:c<b.n) (hp:p<b.n) (hpc:p≠c) (hup:b.upb c=true) (hrun:(b.cor c).runs=none) (hD:b.diary.length≤100000)
  (hs:(((b.cor c).tak p).recv).2≠0) (h:BdAt w Y b):
  Calls Tryz.prog 24 #[ptr Y.bd,evV x lv o v] w fun e w'=>e= .returned (.int .i64 (((b.cor c).tak p).recv).2)∧BdTo w Y b b w':=by
 have hh:b.has x.core:=⟨by omega,by omega⟩
 have hh2:b.has x.peer:=⟨by omega,by omega⟩
 have hu:b.up x.core.toNat:=(upb_up b _).1 (by rw [hcx];exact hup)
 obtain ⟨w1,hw1,hb1,he1,h1⟩:=ev_box x lv o v h
 have HW:=Lib.hid hw1
 have ev0:=he1.cell 0
 have ev1:=he1.cell 1
 have ev2:=he1.cell 2
 have ev3:=he1.cell 3
 have ev4:=he1.cell 4
 simp only [evCells,List.getElem?_cons_zero,List.getElem?_cons_succ] at ev0 ev1 ev2 ev3 ev4
 have c4:=h1.board.cell 4
 simp only [List.getElem?_cons_zero,List.getElem?_cons_succ] at c4
 have hH:=bHas_any x.core h1
 rw [decide_eq_true hh] at hH
 have HH:=Lib.hid hH
 have hP:=bHas_any x.peer h1
 rw [decide_eq_true hh2] at hP
 have HP:=Lib.hid hP
 have hR:=bReady_any x.core h1
 have hr:b.readyR x.core=0:=by unfold Bd.readyR;rw [if_pos hh,if_pos hu]
 rw [hr] at hR
 have HR:=Lib.hid hR
 have cr:=(h1.runCells hc).1
 rw [hrun] at cr
 replace cr:w1.cell? ⟨Y.cg,c*4+2,none⟩=some .nilIface:=cr
 have cn:=h1.board.cell 6
 simp only [List.getElem?_cons_zero,List.getElem?_cons_succ] at cn
 have hin:=nil_nne
 have hbz:Below w1.heap.size w1 (w1.alloc (.cells entZ.toArray 82)):=(Below.refl _ _).alloc (Nat.le_refl _) _
 have cnz:=(h1.fresh hbz).board.cell 6
 have hez:=he1.keep (Keep.ofFresh hbz (B:=0) (F:=fun _=>False)) (fun q=>q)
 have evz0:=hez.cell 0
 have evz1:=hez.cell 1
 have evz2:=hez.cell 2
 have hzz:=Blk.new w1 82 entZ
 have zz0:=hzz.cell 0
 have zz1:=hzz.cell 1
 have zz2:=hzz.cell 2
 have zz3:=hzz.cell 3
 have zz4:=hzz.cell 4
 have zz5:=hzz.cell 5
 have zz6:=hzz.cell 6
 have zz7:=hzz.cell 7
 have zf0:=hzz.free 0
 have zf1:=hzz.free 1
 have zf2:=hzz.free 2
 have zf3:=hzz.free 3
 have zf4:=hzz.free 4
 have zf5:=hzz.free 5
 have zf6:=hzz.free 6
 have zf7:=hzz.free 7
 simp only [entZ,evCells,List.getElem?_cons_zero,List.getElem?_cons_succ] at cnz evz0 evz1 evz2 zz0 zz1 zz2 zz3 zz4 zz5 zz6 zz7 zf0 zf1 zf2 zf3 zf4 zf5 zf6 zf7
 clear hez hzz hbz
 obtain ⟨w2,hw2,hb2,he2,hy2,h2⟩:∃w2,w2=(w1.alloc (.cells #[.int .i64 (c:Int), .int .i64 (p:Int), .int .i64 2, .int .i64 (b.now:Int), .int .i64 0, .int .i64 0, .slice none 0 0, .int .i64 0] 82)).drew.drew∧Below w.heap.size w w2∧Blk w2 w.heap.size 33 (evCells x lv o v)∧Blk w2 w1.heap.size 82 (entCells ⟨c,p,2,b.now,0,0, [],0⟩ (.slice none 0 0))∧BdAt w2 Y b:=by
  have hbz:Below w1.heap.size w1 (w1.alloc (.cells (entCells ⟨c,p,2,b.now,0,0, [],0⟩ (.slice none 0 0)).toArray 82)).drew.drew:=(((Below.refl _ _).alloc (Nat.le_refl _) _).drew).drew
  exact ⟨_,rfl,((hb1.alloc hb1.size _).drew).drew,(he1.keep (Keep.ofFresh hbz (B:=0) (F:=fun _=>False)) (fun q=>q)),Blk.new w1 82 (entCells ⟨c,p,2,b.now,0,0, [],0⟩ (.slice none 0 0)),h1.fresh hbz⟩
 have HW2:=Lib.hid hw2
 obtain ⟨g1,c1,g2,c2,cg0,cg1,cg2,cg3⟩:=h2.givCell hc hp hpc hup
 have ex2:=he2.cell 2
 have ex4:=he2.cell 4
 have ex0:=he2.cell 0
 simp only [evCells,List.getElem?_cons_zero,List.getElem?_cons_succ] at ex0 ex2 ex4
 have hb1':b.setCor c { b.cor c with tak:=upd (b.cor c).tak p (((b.cor c).tak p).recv).1 }=b:=by rw [recv_err hs];exact setCor_tak b c p
 generalize her:(((b.cor c).tak p).recv).2=er at *
 have hS:∀u,Below w.heap.size w u→Calls Tryz.prog 53 #[.pointer (some ⟨Y.tk c p,0,none⟩)] u fun e w'=>e= .returned (.int .i64 er)∧BdSame u Y b b w'∧(∀k ty cs,Blk u k ty cs→w.heap.size≤k→Blk w' k ty cs):=by
  intro u hbu
  have hu1:=h.fresh hbu
  refine (tRecv_any _ _ _ _ u (hu1.tak c p hc hp hpc hup)).mono ?_
  rintro e w' ⟨he,hT⟩
  rw [her] at he
  have hT2:=hu1.ttook hc hp hpc hup hT
  rw [hb1'] at hT2
  have hT3:=hT2
  obtain ⟨Y',hY,hZ,t1,t2,t3⟩:=hT2
  have hnf:∀k,w.heap.size≤k→ ¬BdF Y b k:=fun k hk q=>by have:=h.lt k q;omega
  exact ⟨he,hT3,fun k ty cs hb hk=>hb.keep t2 (hnf k hk)⟩
 have HS:=Lib.hid hS
 obtain ⟨kind,core,peer,hd,load⟩:=x
 have e0:(er == 0)=false:=by simpa using hs
 have e0':(er != 0)=true:=by simpa using hs
 simp only at hcx hpx hki HS
 subst hcx
 subst hpx
 subst hki
 have HB2:=Lib.hid (And.intro hb2 (And.intro he2 (And.intro hy2 (And.intro hb1.size hD))))
 have HH0:=Lib.hid h
 have hc0:(0:Int)≤(c:Int):=by omega
 have hc1:(c:Int)<(b.n:Int):=by omega
 have hp0:(0:Int)≤(p:Int):=by omega
 have hp1:(p:Int)<(b.n:Int):=by omega
 have hpc': ¬(c:Int)=(p:Int):=by omega
 clear her hw1 hb1 he1 h1 h hw2 hb2 he2 hy2 h2 hH hP hR hr hh hh2 hu hrun hS hs hup hb1' hD
 unfold ptr evV at *
 go_enter Tryz.func24,Tryz.ntmps24
 go_wp2_with fail
 rw [←HW.out]
 refine HH.out.mono ?_
 rintro e w' ⟨rfl,rfl⟩
 go_wp2_with fail
 refine HP.out.mono ?_
 rintro e w' ⟨rfl,rfl⟩
 go_wp2_with fail
 refine HR.out.mono ?_
 rintro e w' ⟨rfl,rfl⟩
 go_wp2_with fail
 go_region
 go_wp2_with fail
 go_region
 rw [←HW2.out]
 clear zz0 zz1 zz2 zz3 zz4 zz5 zz6 zz7 zf0 zf1 zf2 zf3 zf4 zf5 zf6 zf7 evz0 evz1 evz2 cnz cr c4 ev0 ev1 ev2 ev3 ev4 cn HH HP HR
 go_wp2_with fail
 go_quiet (fail)
 go_wp2_with fail
 refine (HS.out _ (belowN HB2.out.1 _)).mono ?_
 rintro e w3 ⟨rfl,hT3,hK3⟩
 have hev3:=hK3 _ _ _ (blkN HB2.out.2.1 _) (Nat.le_refl _)
 have hen3:=hK3 _ _ _ (blkN HB2.out.2.2.1 _) HB2.out.2.2.2.1
 have HT3:=Lib.hid hT3
 clear hT3 hK3 hev3 cg0 cg1 cg2 cg3 ex0 ex2 ex4
 have hk5:Keep (fun k=>k=w1.heap.size) w3 w3:=Keep.refl _ _
 obtain ⟨Y1,⟨ybd,ycg⟩,⟨ygb,ytk⟩,h5,k5,n5,s3,s5,o5⟩:=BdSame.later HH0.out (belowN HB2.out.1 _) HT3.out HB2.out.2.2.2.1 HB2.out.2.2.1.lt hk5
 have hv5:RowI w3 (.slice none 0 0) []:=Row.nil _ _ _
 have hv4f:∀k,(Value.slice none 0 0).ownBlock=some k→w3.heap.size≤k:=fun k q=>by simp [Value.ownBlock] at q
 have H5:=Lib.hid h5
 have HK5:=Lib.hid (And.intro hv5 (And.intro hen3 (And.intro k5 (And.intro n5 (And.intro o5 (And.intro hv4f (And.intro s3 s5)))))))
 clear h5 hv5 hen3 hk5 k5 n5 o5 hv4f s3 s5
 go_upto_region 22 with fail
 generalize w3=w5 at *
 have hFIN:=Lib.hid (show BdTo w Y b b w5 from ⟨Y1,⟨ybd,ycg⟩,H5.out,HK5.out.2.2.1,HK5.out.2.2.2.1⟩)
 clear HK5 H5
 go_wp2_with fail
 go_ret
 exact ⟨rfl,hFIN.out⟩
set_option maxHeartbeats 2000000 in
set_option maxRecDepth 100000 in
theorem bCall_releaseErr {c p:Nat} (hcx:x.core=c) (hpx:x.peer=p) (hki:x.kind=5) (hc:c<b.n) (hp:p<b.n) (hpc:p≠c) (hup:b.upb c=true) (hrun:(b.cor c).runs=none) (hD:b.diary.length≤100000) (tok:((b.cor c).tak p).tab.Ok)
  (hs:(((b.cor c).tak p).release x.handle).2≠0) (h:BdAt w Y b):
  Calls Tryz.prog 24 #[ptr Y.bd,evV x lv o v] w fun e w'=>e= .returned (.int .i64 (((b.cor c).tak p).release x.handle).2)∧BdTo w Y b b w':=by
 have hh:b.has x.core:=⟨by omega,by omega⟩
 have hh2:b.has x.peer:=⟨by omega,by omega⟩
 have hu:b.up x.core.toNat:=(upb_up b _).1 (by rw [hcx];exact hup)
 obtain ⟨w1,hw1,hb1,he1,h1⟩:=ev_box x lv o v h
 have HW:=Lib.hid hw1
 have ev0:=he1.cell 0
 have ev1:=he1.cell 1
 have ev2:=he1.cell 2
 have ev3:=he1.cell 3
 have ev4:=he1.cell 4
 simp only [evCells,List.getElem?_cons_zero,List.getElem?_cons_succ] at ev0 ev1 ev2 ev3 ev4
 have c4:=h1.board.cell 4
 simp only [List.getElem?_cons_zero,List.getElem?_cons_succ] at c4
 have hH:=bHas_any x.core h1
 rw [decide_eq_true hh] at hH
 have HH:=Lib.hid hH
 have hP:=bHas_any x.peer h1
 rw [decide_eq_true hh2] at hP
 have HP:=Lib.hid hP
 have hR:=bReady_any x.core h1
 have hr:b.readyR x.core=0:=by unfold Bd.readyR;rw [if_pos hh,if_pos hu]
 rw [hr] at hR
 have HR:=Lib.hid hR
 have cr:=(h1.runCells hc).1
 rw [hrun] at cr
 replace cr:w1.cell? ⟨Y.cg,c*4+2,none⟩=some .nilIface:=cr
 have cn:=h1.board.cell 6
 simp only [List.getElem?_cons_zero,List.getElem?_cons_succ] at cn
 have hin:=nil_nne
 have hbz:Below w1.heap.size w1 (w1.alloc (.cells entZ.toArray 82)):=(Below.refl _ _).alloc (Nat.le_refl _) _
 have cnz:=(h1.fresh hbz).board.cell 6
 have hez:=he1.keep (Keep.ofFresh hbz (B:=0) (F:=fun _=>False)) (fun q=>q)
 have evz0:=hez.cell 0
 have evz1:=hez.cell 1
 have evz2:=hez.cell 2
 have hzz:=Blk.new w1 82 entZ
 have zz0:=hzz.cell 0
 have zz1:=hzz.cell 1
 have zz2:=hzz.cell 2
 have zz3:=hzz.cell 3
 have zz4:=hzz.cell 4
 have zz5:=hzz.cell 5
 have zz6:=hzz.cell 6
 have zz7:=hzz.cell 7
 have zf0:=hzz.free 0
 have zf1:=hzz.free 1
 have zf2:=hzz.free 2
 have zf3:=hzz.free 3
 have zf4:=hzz.free 4
 have zf5:=hzz.free 5
 have zf6:=hzz.free 6
 have zf7:=hzz.free 7
 simp only [entZ,evCells,List.getElem?_cons_zero,List.getElem?_cons_succ] at cnz evz0 evz1 evz2 zz0 zz1 zz2 zz3 zz4 zz5 zz6 zz7 zf0 zf1 zf2 zf3 zf4 zf5 zf6 zf7
 clear hez hzz hbz
 obtain ⟨w2,hw2,hb2,he2,hy2,h2⟩:∃w2,w2=(w1.alloc (.cells #[.int .i64 (c:Int), .int .i64 (p:Int), .int .i64 3, .int .i64 (b.now:Int), .int .i64 0, .int .i64 0, .slice none 0 0, .int .i64 0] 82)).drew.drew∧Below w.heap.size w w2∧Blk w2 w.heap.size 33 (evCells x lv o v)∧Blk w2 w1.heap.size 82 (entCells ⟨c,p,3,b.now,0,0, [],0⟩ (.slice none 0 0))∧BdAt w2 Y b:=by
  have hbz:Below w1.heap.size w1 (w1.alloc (.cells (entCells ⟨c,p,3,b.now,0,0, [],0⟩ (.slice none 0 0)).toArray 82)).drew.drew:=(((Below.refl _ _).alloc (Nat.le_refl _) _).drew).drew
  exact ⟨_,rfl,((hb1.alloc hb1.size _).drew).drew,(he1.keep (Keep.ofFresh hbz (B:=0) (F:=fun _=>False)) (fun q=>q)),Blk.new w1 82 (entCells ⟨c,p,3,b.now,0,0, [],0⟩ (.slice none 0 0)),h1.fresh hbz⟩
 have HW2:=Lib.hid hw2
 obtain ⟨g1,c1,g2,c2,cg0,cg1,cg2,cg3⟩:=h2.givCell hc hp hpc hup
 have ex2:=he2.cell 2
 have ex4:=he2.cell 4
 have ex3:=he2.cell 3
 have ex0:=he2.cell 0
 simp only [evCells,List.getElem?_cons_zero,List.getElem?_cons_succ] at ex0 ex2 ex3 ex4
 have hb1':b.setCor c { b.cor c with tak:=upd (b.cor c).tak p (((b.cor c).tak p).release x.handle).1 }=b:=by rw [release_err hs];exact setCor_tak b c p
 generalize her:(((b.cor c).tak p).release x.handle).2=er at *
 have hS:∀u,Below w.heap.size w u→Calls Tryz.prog 54 #[.pointer (some ⟨Y.tk c p,0,none⟩), .int .i64 x.handle] u fun e w'=>e= .returned (.int .i64 er)∧BdSame u Y b b w'∧(∀k ty cs,Blk u k ty cs→w.heap.size≤k→Blk w' k ty cs):=by
  intro u hbu
  have hu1:=h.fresh hbu
  refine (tRelease_any _ _ _ _ u (hu1.tak c p hc hp hpc hup) x.handle tok).mono ?_
  rintro e w' ⟨he,hT⟩
  rw [her] at he
  have hT2:=hu1.ttook hc hp hpc hup hT
  rw [hb1'] at hT2
  have hT3:=hT2
  obtain ⟨Y',hY,hZ,t1,t2,t3⟩:=hT2
  have hnf:∀k,w.heap.size≤k→ ¬BdF Y b k:=fun k hk q=>by have:=h.lt k q;omega
  exact ⟨he,hT3,fun k ty cs hb hk=>hb.keep t2 (hnf k hk)⟩
 have HS:=Lib.hid hS
 obtain ⟨kind,core,peer,hd,load⟩:=x
 have e0:(er == 0)=false:=by simpa using hs
 have e0':(er != 0)=true:=by simpa using hs
 simp only at hcx hpx hki HS
 subst hcx
 subst hpx
 subst hki
 have HB2:=Lib.hid (And.intro hb2 (And.intro he2 (And.intro hy2 (And.intro hb1.size hD))))
 have HH0:=Lib.hid h
 have hc0:(0:Int)≤(c:Int):=by omega
 have hc1:(c:Int)<(b.n:Int):=by omega
 have hp0:(0:Int)≤(p:Int):=by omega
 have hp1:(p:Int)<(b.n:Int):=by omega
 have hpc': ¬(c:Int)=(p:Int):=by omega
 clear her hw1 hb1 he1 h1 h hw2 hb2 he2 hy2 h2 hH hP hR hr hh hh2 hu hrun hS hs hup tok hb1' hD
 unfold ptr evV at *
 go_enter Tryz.func24,Tryz.ntmps24
 go_wp2_with fail
 rw [←HW.out]
 refine HH.out.mono ?_
 rintro e w' ⟨rfl,rfl⟩
 go_wp2_with fail
 refine HP.out.mono ?_
 rintro e w' ⟨rfl,rfl⟩
 go_wp2_with fail
 refine HR.out.mono ?_
 rintro e w' ⟨rfl,rfl⟩
 go_wp2_with fail
 go_region
 go_wp2_with fail
 go_region
 rw [←HW2.out]
 clear zz0 zz1 zz2 zz3 zz4 zz5 zz6 zz7 zf0 zf1 zf2 zf3 zf4 zf5 zf6 zf7 evz0 evz1 evz2 cnz cr c4 ev0 ev1 ev2 ev3 ev4 cn HH HP HR
 go_wp2_with fail
 go_quiet (fail)
 go_wp2_with fail
 refine (HS.out _ (belowN HB2.out.1 _)).mono ?_
 rintro e w3 ⟨rfl,hT3,hK3⟩
 have hev3:=hK3 _ _ _ (blkN HB2.out.2.1 _) (Nat.le_refl _)
 have hen3:=hK3 _ _ _ (blkN HB2.out.2.2.1 _) HB2.out.2.2.2.1
 clear ex3
 have ex3:=hev3.cell 3
 simp only [evCells,List.getElem?_cons_zero,List.getElem?_cons_succ] at ex3
 have HT3:=Lib.hid hT3
 have y7:=hen3.cell 7
 have f7a:=hen3.free 7
 simp only [entCells,List.getElem?_cons_zero,List.getElem?_cons_succ] at y7
 clear hT3 hK3 hev3 cg0 cg1 cg2 cg3 ex0 ex2 ex4
 have hk5:Keep (fun k=>k=w1.heap.size) w3 (w3.setCell ⟨w1.heap.size,7,none⟩ (.int .i64 hd)):=Keep.setCell (F:=fun k=>k=w1.heap.size) (p:=⟨w1.heap.size,7,none⟩) (Keep.refl _ _) (fun _=>rfl) _
 have hen5:=hen3.set 7 (.int .i64 hd)
 obtain ⟨Y1,⟨ybd,ycg⟩,⟨ygb,ytk⟩,h5,k5,n5,s3,s5,o5⟩:=BdSame.later HH0.out (belowN HB2.out.1 _) HT3.out HB2.out.2.2.2.1 HB2.out.2.2.1.lt hk5
 have hv5:RowI (w3.setCell ⟨w1.heap.size,7,none⟩ (.int .i64 hd)) (.slice none 0 0) []:=Row.nil _ _ _
 have hv4f:∀k,(Value.slice none 0 0).ownBlock=some k→w3.heap.size≤k:=fun k q=>by simp [Value.ownBlock] at q
 have H5:=Lib.hid h5
 have HK5:=Lib.hid (And.intro hv5 (And.intro hen5 (And.intro k5 (And.intro n5 (And.intro o5 (And.intro hv4f (And.intro s3 s5)))))))
 clear h5 hv5 hen3 hen5 hk5 k5 n5 o5 hv4f s3 s5
 go_upto_region 22 with fail
 clear ex3 y7 f7a
 generalize w3.setCell ⟨w1.heap.size,7,none⟩ (.int .i64 hd)=w5 at *
 have hFIN:=Lib.hid (show BdTo w Y b b w5 from ⟨Y1,⟨ybd,ycg⟩,H5.out,HK5.out.2.2.1,HK5.out.2.2.2.1⟩)
 clear HK5 H5
 go_wp2_with fail
 go_ret
 exact ⟨rfl,hFIN.out⟩
end
end Go.Proofs.YtaaffebnajjfhaaGreatDoor.T
