/- Texts of this proof, merged: Brd12. -/
import Derived.Test.YtaaffebnajjfhaaGreatDoorH30
namespace Go.Proofs.YtaaffebnajjfhaaGreatDoor.T
set_option linter.unusedVariables false
set_option linter.unusedSimpArgs false
set_option linter.unusedSectionVars false
open Go.RowKit
section
variable {w:World} {Y:Lay} {b:Bd} {x:Ev} {lv:Value} {o v:Int}
set_option maxHeartbeats 2000000 in
set_option maxRecDepth 100000 in
theorem bCall_recvOk {c p:Nat} (hcx:x.core=c) (hpx:x.peer=p) (hki:x.kind=4) (hc:c<b.n) (hp:p<b.n) (hpc:p≠c) (hup:b.upb c=true) (hrun:(b.cor c).runs=none) (hD:b.diary.length≤100000)
  (hs:(((b.cor c).tak p).recv).2=0) (h:BdAt w Y b):
  Calls Tryz.prog 24 #[ptr Y.bd,evV x lv o v] w fun e w'=>e= .returned (.int .i64 0)∧BdTo w Y b { b.setCor c { b.cor c with tak:=upd (b.cor c).tak p (((b.cor c).tak p).recv).1,runs:=some (.tak p),entry:=b.diary.length } with diary:=b.diary ++ [⟨c,p,2,b.now,0,0, [],0⟩] } w':=by
 have hh:b.has x.core:=⟨by omega,by omega⟩
 have hh2:b.has x.peer:=⟨by omega,by omega⟩
 have hu:b.up x.core.toNat:=(upb_up b _).1 (by rw [hcx];exact hup)
 obtain ⟨w1,hw1,hb1,he1,h1⟩:=ev_box x lv o v h
 have HW:=Lib.hid hw1
 have ev0:=he1.cell 0
 have ev1:=he1.cell 1
 have ev2:=he1.cell 2
 have ev3:=he1.cell 3
 have ev4:=he1.cell 4
 simp only [evCells,List.getElem?_cons_zero,List.getElem?_cons_succ] at ev0 ev1 ev2 ev3 ev4
 have c4:=h1.board.cell 4
 simp only [List.getElem?_cons_zero,List.getElem?_cons_succ] at c4
 have hH:=bHas_any x.core h1
 rw [decide_eq_true hh] at hH
 have HH:=Lib.hid hH
 have hP:=bHas_any x.peer h1
 rw [decide_eq_true hh2] at hP
 have HP:=Lib.hid hP
 have hR:=bReady_any x.core h1
 have hr:b.readyR x.core=0:=by unfold Bd.readyR;rw [if_pos hh,if_pos hu]
 rw [hr] at hR
 have HR:=Lib.hid hR
 have cr:=(h1.runCells hc).1
 rw [hrun] at cr
 replace cr:w1.cell? ⟨Y.cg,c*4+2,none⟩=some .nilIface:=cr
 have cn:=h1.board.cell 6
 simp only [List.getElem?_cons_zero,List.getElem?_cons_succ] at cn
 have hin:=nil_nne
 have hbz:Below w1.heap.size w1 (w1.alloc (.cells entZ.toArray 82)):=(Below.refl _ _).alloc (Nat.le_refl _) _
 have cnz:=(h1.fresh hbz).board.cell 6
 have hez:=he1.keep (Keep.ofFresh hbz (B:=0) (F:=fun _=>False)) (fun q=>q)
 have evz0:=hez.cell 0
 have evz1:=hez.cell 1
 have evz2:=hez.cell 2
 have hzz:=Blk.new w1 82 entZ
 have zz0:=hzz.cell 0
 have zz1:=hzz.cell 1
 have zz2:=hzz.cell 2
 have zz3:=hzz.cell 3
 have zz4:=hzz.cell 4
 have zz5:=hzz.cell 5
 have zz6:=hzz.cell 6
 have zz7:=hzz.cell 7
 have zf0:=hzz.free 0
 have zf1:=hzz.free 1
 have zf2:=hzz.free 2
 have zf3:=hzz.free 3
 have zf4:=hzz.free 4
 have zf5:=hzz.free 5
 have zf6:=hzz.free 6
 have zf7:=hzz.free 7
 simp only [entZ,evCells,List.getElem?_cons_zero,List.getElem?_cons_succ] at cnz evz0 evz1 evz2 zz0 zz1 zz2 zz3 zz4 zz5 zz6 zz7 zf0 zf1 zf2 zf3 zf4 zf5 zf6 zf7
 clear hez hzz hbz
 obtain ⟨w2,hw2,hb2,he2,hy2,h2⟩:∃w2,w2=(w1.alloc (.cells #[.int .i64 (c:Int), .int .i64 (p:Int), .int .i64 2, .int .i64 (b.now:Int), .int .i64 0, .int .i64 0, .slice none 0 0, .int .i64 0] 82)).drew.drew∧Below w.heap.size w w2∧Blk w2 w.heap.size 33 (evCells x lv o v)∧Blk w2 w1.heap.size 82 (entCells ⟨c,p,2,b.now,0,0, [],0⟩ (.slice none 0 0))∧BdAt w2 Y b:=by
  have hbz:Below w1.heap.size w1 (w1.alloc (.cells (entCells ⟨c,p,2,b.now,0,0, [],0⟩ (.slice none 0 0)).toArray 82)).drew.drew:=(((Below.refl _ _).alloc (Nat.le_refl _) _).drew).drew
  exact ⟨_,rfl,((hb1.alloc hb1.size _).drew).drew,(he1.keep (Keep.ofFresh hbz (B:=0) (F:=fun _=>False)) (fun q=>q)),Blk.new w1 82 (entCells ⟨c,p,2,b.now,0,0, [],0⟩ (.slice none 0 0)),h1.fresh hbz⟩
 have HW2:=Lib.hid hw2
 obtain ⟨g1,c1,g2,c2,cg0,cg1,cg2,cg3⟩:=h2.givCell hc hp hpc hup
 have ex2:=he2.cell 2
 have ex4:=he2.cell 4
 have ex0:=he2.cell 0
 simp only [evCells,List.getElem?_cons_zero,List.getElem?_cons_succ] at ex0 ex2 ex4
 generalize hb1':b.setCor c { b.cor c with tak:=upd (b.cor c).tak p (((b.cor c).tak p).recv).1 }=b1
 have hS:∀u,Below w.heap.size w u→Calls Tryz.prog 53 #[.pointer (some ⟨Y.tk c p,0,none⟩)] u fun e w'=>e= .returned (.int .i64 0)∧BdSame u Y b b1 w'∧(∀k ty cs,Blk u k ty cs→w.heap.size≤k→Blk w' k ty cs):=by
  intro u hbu
  have hu1:=h.fresh hbu
  refine (tRecv_any _ _ _ _ u (hu1.tak c p hc hp hpc hup)).mono ?_
  rintro e w' ⟨he,hT⟩
  rw [hs] at he
  have hT2:=hu1.ttook hc hp hpc hup hT
  rw [hb1'] at hT2
  have hT3:=hT2
  obtain ⟨Y',hY,hZ,t1,t2,t3⟩:=hT2
  have hnf:∀k,w.heap.size≤k→ ¬BdF Y b k:=fun k hk q=>by have:=h.lt k q;omega
  exact ⟨he,hT3,fun k ty cs hb hk=>hb.keep t2 (hnf k hk)⟩
 have HS:=Lib.hid hS
 have hb1c:(b1.cor c)= { b.cor c with tak:=upd (b.cor c).tak p (((b.cor c).tak p).recv).1 }:=by rw [←hb1'];exact upd_same _ _ _
 have hb1n:b1.n=b.n:=by rw [←hb1'];rfl
 have hb1d:b1.diary=b.diary:=by rw [←hb1'];rfl
 have hfin:({ b1.setCor c { b1.cor c with runs:=some (.tak p),entry:=b1.diary.length } with diary:=b1.diary ++ [⟨c,p,2,b.now,0,0, [],0⟩] }:Bd)= { b.setCor c { b.cor c with tak:=upd (b.cor c).tak p (((b.cor c).tak p).recv).1,runs:=some (.tak p),entry:=b.diary.length } with diary:=b.diary ++ [⟨c,p,2,b.now,0,0, [],0⟩] }:=by
  rw [hb1c,hb1d, ←hb1']
  simp only [Bd.setCor,upd_upd]
 rw [←hfin]
 have HX:=Lib.hid (And.intro hb1n hb1d)
 obtain ⟨kind,core,peer,hd,load⟩:=x
 simp only at hcx hpx hki HS hs
 subst hcx
 subst hpx
 subst hki
 have HB2:=Lib.hid (And.intro hb2 (And.intro he2 (And.intro hy2 (And.intro hb1.size hD))))
 have HH0:=Lib.hid h
 have hc0:(0:Int)≤(c:Int):=by omega
 have hc1:(c:Int)<(b.n:Int):=by omega
 have hp0:(0:Int)≤(p:Int):=by omega
 have hp1:(p:Int)<(b.n:Int):=by omega
 have hpc': ¬(c:Int)=(p:Int):=by omega
 clear hb1c hb1n hb1d hfin hw1 hb1 he1 h1 h hw2 hb2 he2 hy2 h2 hH hP hR hr hh hh2 hu hrun hS hs hup hb1' hD
 unfold ptr evV at *
 go_enter Tryz.func24,Tryz.ntmps24
 go_wp2_with fail
 rw [←HW.out]
 refine HH.out.mono ?_
 rintro e w' ⟨rfl,rfl⟩
 go_wp2_with fail
 refine HP.out.mono ?_
 rintro e w' ⟨rfl,rfl⟩
 go_wp2_with fail
 refine HR.out.mono ?_
 rintro e w' ⟨rfl,rfl⟩
 go_wp2_with fail
 go_region
 go_wp2_with fail
 go_region
 rw [←HW2.out]
 clear zz0 zz1 zz2 zz3 zz4 zz5 zz6 zz7 zf0 zf1 zf2 zf3 zf4 zf5 zf6 zf7 evz0 evz1 evz2 cnz cr c4 ev0 ev1 ev2 ev3 ev4 cn HH HP HR
 go_wp2_with fail
 go_quiet (fail)
 go_wp2_with fail
 refine (HS.out _ (belowN HB2.out.1 _)).mono ?_
 rintro e w3 ⟨rfl,hT3,hK3⟩
 have hev3:=hK3 _ _ _ (blkN HB2.out.2.1 _) (Nat.le_refl _)
 have hen3:=hK3 _ _ _ (blkN HB2.out.2.2.1 _) HB2.out.2.2.2.1
 have HT3:=Lib.hid hT3
 clear hT3 hK3 hev3 cg0 cg1 cg2 cg3 ex0 ex2 ex4
 have hk5:Keep (fun k=>k=w1.heap.size) w3 w3:=Keep.refl _ _
 obtain ⟨Y1,⟨ybd,ycg⟩,⟨ygb,ytk⟩,h5,k5,n5,s3,s5,o5⟩:=BdSame.later HH0.out (belowN HB2.out.1 _) HT3.out HB2.out.2.2.2.1 HB2.out.2.2.1.lt hk5
 have hv5:RowI w3 (.slice none 0 0) []:=Row.nil _ _ _
 have hv4f:∀k,(Value.slice none 0 0).ownBlock=some k→w3.heap.size≤k:=fun k q=>by simp [Value.ownBlock] at q
 have H5:=Lib.hid h5
 have HK5:=Lib.hid (And.intro hv5 (And.intro hen3 (And.intro k5 (And.intro n5 (And.intro o5 (And.intro hv4f (And.intro s3 s5)))))))
 clear h5 hv5 hen3 hk5 k5 n5 o5 hv4f s3 s5
 go_upto_region 22 with fail
 generalize w3=w5 at *
 have h5:=H5.out
 obtain ⟨hv5,hen5, -⟩:=HK5.out
 have hc5:c<b1.n:=by rw [HX.out.1];exact hc
 have hD5:b1.diary.length≤100000:=by rw [HX.out.2];exact HB2.out.2.2.2.2
 obtain ⟨A5,q5,hvd⟩:=h5.diary.slice
 obtain ⟨r2,r3, -, -,d5, -,g2,g3⟩:=h5.runCells hc5
 rw [ybd,hvd] at d5
 rw [ycg] at r2 r3 g2 g3
 have hbd5:=h5.board
 have hne:=h5.ne_cg
 rw [ybd,ycg] at hne
 rw [ybd] at hbd5
 obtain ⟨W6,hW6⟩:∃W6,W6=(w5.setCell ⟨Y.cg,c*4+2,none⟩ (.iface 111 (.pointer (some ⟨Y.tk c p,0,none⟩)))).setCell ⟨Y.cg,c*4+3,none⟩ (.int .i64 (b1.diary.length:Int)):=⟨_,rfl⟩
 have hbd6:=(hbd5.far (p:=⟨Y.cg,c*4+2,none⟩) hne (.iface 111 (.pointer (some ⟨Y.tk c p,0,none⟩)))).far (p:=⟨Y.cg,c*4+3,none⟩) hne (.int .i64 (b1.diary.length:Int))
 rw [←hW6,hvd] at hbd6
 obtain ⟨cs5,hcs5, -⟩:=h5.cores
 rw [ycg] at hcs5
 have hencg:w1.heap.size≠Y.cg:=hen5.ne hcs5 (by decide)
 have hen6:=(hen5.far (p:=⟨Y.cg,c*4+2,none⟩) hencg (.iface 111 (.pointer (some ⟨Y.tk c p,0,none⟩)))).far (p:=⟨Y.cg,c*4+3,none⟩) hencg (.int .i64 (b1.diary.length:Int))
 rw [←hW6] at hen6
 have hd6:RowZ W6 82 8 Y1.vd b1.diary.length (diaCells Y1.dl b1.diary):=by
  rw [hW6]
  exact (h5.diary.far hcs5 (by decide) _ _).far (hcs5.set _ _) (by decide) _ _
 have x0:=hen6.cell 0
 have x1:=hen6.cell 1
 have x2:=hen6.cell 2
 have x3:=hen6.cell 3
 have x4:=hen6.cell 4
 have x5:=hen6.cell 5
 have x6:=hen6.cell 6
 have x7:=hen6.cell 7
 simp only [entCells,List.set_cons_succ,List.set_cons_zero,List.getElem?_cons_zero,List.getElem?_cons_succ] at x0 x1 x2 x3 x4 x5 x6 x7
 have d6:=hbd6.cell 5
 have hbdA:=hbd6.keep (Keep.ofFresh (B:=0) (F:=fun _=>False) ((Below.refl W6.heap.size W6).drew.alloc (Nat.le_refl _) (.cells #[.int .i64 (c:Int), .int .i64 (p:Int), .int .i64 2, .int .i64 (b.now:Int), .int .i64 0, .int .i64 0,(Value.slice none 0 0), .int .i64 0] 82))) (fun q=>q)
 have dA:(W6.alloc (.cells #[.int .i64 (c:Int), .int .i64 (p:Int), .int .i64 2, .int .i64 (b.now:Int), .int .i64 0, .int .i64 0,(Value.slice none 0 0), .int .i64 0] 82)).cell? ⟨Y.bd,5,none⟩=some (.slice A5 b1.diary.length q5):=hbdA.cell 5
 obtain ⟨v7,w7,hr7,hR7,hg7,hat7⟩:=ent_push W6.drew Y1.vd b1.diary.length (diaCells Y1.dl b1.diary) hD5 hd6 ⟨c,p,2,b.now,0,0, [],0⟩ (Value.slice none 0 0) rfl
 obtain ⟨A7,q7,hv7⟩:=hR7.slice
 subst hv7
 have hbd7:=hbdA.keep (Keep.grown hg7) (fun e=>hd6.ne hbd6 (by decide) e)
 have d7:=hbd7.cell 5
 have f7:=hbd7.free 5
 rw [hvd] at hr7
 simp only [List.getElem?_cons_zero,List.getElem?_cons_succ] at d6 d7
 have HW6:=Lib.hid hW6
 have HR7:=Lib.hid hr7
 have HP:=Lib.hid (And.intro hR7 (And.intro hg7 hat7))
 clear h5 hv5 hen5 hbd5 hbd6 hbdA hbd7 hcs5 hen6 hd6 hR7 hg7 hat7 hr7 hW6
 go_wp2_with fail
 rw [←HW6.out]
 clear d5 r2 r3 g2 g3
 go_region_law (refine app_run_step rfl _ _ 35 35 rfl rfl rfl rfl HR7.out ?_)
 all_goals (
  obtain ⟨z1,z2,z3,z4,z5,z6,z7,z8⟩:=HK5.out
  have h5:=H5.out
  have hgl:=HH0.out.glob.tab 0 (by decide)
  have hgl1:=World.block_lt_of_cell? w _ hgl
  simp only at hgl1
  have hrv:runV Y1 c (some (.tak p))= .iface 111 (.pointer (some ⟨Y.tk c p,0,none⟩)):=by
   show Value.iface 111 (ptr (Y1.tk c p))=_
   rw [ytk];rfl
  have hwb:Below w5.heap.size ((w5.setCell ⟨Y1.cg,c*4+2,none⟩ (runV Y1 c (some (.tak p)))).setCell ⟨Y1.cg,c*4+3,none⟩ (.int .i64 b1.diary.length)) (W6.drew.alloc (.cells #[.int .i64 (c:Int), .int .i64 (p:Int), .int .i64 2, .int .i64 (b.now:Int), .int .i64 0, .int .i64 0,(Value.slice none 0 0), .int .i64 0] 82)):=by
   rw [hrv,ycg, ←HW6.out]
   have hs6:W6.heap.size=w5.heap.size:=by rw [HW6.out];simp
   exact (Below.refl _ _).drew.alloc (by show w5.heap.size≤W6.heap.size;omega) _
  have hN:=h5.pushed (B:=w.heap.size) hgl1 hc5 (.tak p) ⟨c,p,2,b.now,0,0, [],0⟩ (Value.slice none 0 0) z1 (fun k q=>⟨by have:=z6 k q;omega,fun r=>by have:=z6 k q;have:=(z5 k r).1;omega⟩) (by omega) hwb HP.out.1 HP.out.2.1 HP.out.2.2
  have hFIN:=Lib.hid (BdN.step ⟨ybd,ycg⟩ z3 z4 hN)
  rw [ybd] at hFIN
  clear z1 z2 z3 z4 z5 z6 z7 z8 h5 hgl hgl1 hrv hwb hN
  generalize w7.setCell ⟨Y.bd,5,none⟩ (Value.slice A7 (b1.diary.length+1) q7)=W8 at hFIN ⊢
  go_wp2_with fail
  go_ret
  exact ⟨rfl,hFIN.out⟩)
end
end Go.Proofs.YtaaffebnajjfhaaGreatDoor.T
