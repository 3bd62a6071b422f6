/- Texts of this proof, merged: Frs11. -/
import Derived.Test.YtaaffebnajjfhaaGreatDoorH36
namespace Go.Proofs.YtaaffebnajjfhaaGreatDoor.T
set_option linter.unusedVariables false
set_option linter.unusedSimpArgs false
set_option linter.unusedSectionVars false
open Go.RowKit
def FreshTo (w:World) (n r c own:Nat) (vg vt:Value) (w':World):Prop:=
 ∃tg gb vf tk tt,FrIn (w.heap.size+3) w' n r c own n n tg vg vt gb vf tk tt
set_option maxHeartbeats 4000000 in
set_option maxRecDepth 100000 in
theorem fresh_any (n r m c own:Nat) (hR:rightB n r m=true) (hc:c<n) (ho:own<65536) (w:World) (hg:Glob w):
  Calls Tryz.prog 20 #[plotV n r m, .int .i64 c, .int .i64 own] w fun e w'=>∃vg vt,e= .returned (.agg #[vg,vt, .nilIface, .int .i64 0])∧FreshTo w n r c own vg vt w'∧Below w.heap.size w w':=by
 obtain ⟨hn0,hn1,⟨hr0,hr1⟩,hrb,hm0,hm1⟩:=right_of hR
 have hn8:n≤8:=by omega
 have hbig:2≤w.heap.size:=by
  have h3:=hg.tab 0 (by decide)
  have:=World.block_lt_of_cell? w _ h3
  exact this
 have HR:=Lib.hid (And.intro hR (And.intro hrb (And.intro hc (And.intro ho (And.intro hn8 (And.intro hbig hg))))))
 clear hR hrb hg
 unfold plotV
 go_enter Tryz.func20,Tryz.ntmps20
 go_wp2_with fail
 rw [show w.heap.size+1+1=w.heap.size+2 from rfl]
 go_loopw [15] (fun jv u=>∃k:Nat,k≤n∧jv= .int .i64 k∧∃vg vt tg gb vf tk tt,FW w u n r m vg vt∧FrIn (w.heap.size+3) u n r c own k k tg vg vt gb vf tk tt)
  (fun jv _=>n-(intOf jv).toNat)
 case atStart=>
  obtain ⟨hR,hrb,hc,ho,hn8,hbig,hg⟩:=HR.out
  have a1:=Blk.new w 23 [.int .i64 n, .int .i64 r, .int .i64 m]
  have a2:=Blk.new (w.alloc (.cells #[.int .i64 n, .int .i64 r, .int .i64 m] 23)) 71 [nilS,nilS, .nilIface, .int .i64 0]
  have a3:=Blk.new ((w.alloc (.cells #[.int .i64 n, .int .i64 r, .int .i64 m] 23)).alloc (.cells #[nilS,nilS, .nilIface, .int .i64 0] 71)) 71 [nilS,nilS, .nilIface, .int .i64 0]
  have e2:(w.alloc (.cells #[.int .i64 (n:Int), .int .i64 (r:Int), .int .i64 (m:Int)] 23)).heap.size=w.heap.size+1:=by simp
  have e3:((w.alloc (.cells #[.int .i64 (n:Int), .int .i64 (r:Int), .int .i64 (m:Int)] 23)).alloc (.cells #[nilS,nilS, .nilIface, .int .i64 0] 71)).heap.size=w.heap.size+2:=by simp
  rw [e2] at a2
  rw [e3] at a3
  have hb:Below w.heap.size w (((w.alloc (.cells #[.int .i64 n, .int .i64 r, .int .i64 m] 23)).alloc (.cells #[nilS,nilS, .nilIface, .int .i64 0] 71)).alloc (.cells #[nilS,nilS, .nilIface, .int .i64 0] 71)):=(((Below.refl _ _).alloc (Nat.le_refl _) _).alloc (by rw [e2];omega) _).alloc (by rw [e3];omega) _
  refine ⟨0,by omega,rfl,nilS,nilS,fun _=> .none_,fun _=>0,fun _=>nilS,fun _=>0,fun _=>0,⟨(a1.alloc _).alloc _,a2.alloc _,a3,hg.fresh hb,hb,hbig⟩,⟨by simp,⟨rfl, .inl ⟨rfl,rfl⟩⟩,⟨rfl, .inl ⟨rfl,rfl⟩⟩,fun p hp=>by omega,fun p hp=>by omega,fun k q=>by simp [nilS,Value.ownBlock] at q,fun p hp=>by omega,fun p hp=>by omega⟩⟩
 case round=>
  obtain ⟨k,hk,rfl,vg,vt,tg,gb,vf,tk,tt,hF,hI⟩:=hrel
  obtain ⟨hR,hrb,hc,ho,hn8,hbig,hg⟩:=HR.out
  by_cases hkn:k<n
  ·obtain ⟨b1,r1,hs1⟩:∃b1 r1:Int,spanV n r c k= .agg #[.int .i64 b1, .int .i64 r1]:=by
    unfold spanV;split<;>exact ⟨_,_,rfl⟩
   obtain ⟨b2,r2,hs2⟩:∃b2 r2:Int,spanV n r k c= .agg #[.int .i64 b2, .int .i64 r2]:=by
    unfold spanV;split<;>exact ⟨_,_,rfl⟩
   obtain ⟨A1,q1,hvg⟩:=hI.givs.slice
   obtain ⟨A2,q2,hvt⟩:=hI.taks.slice
   subst hvg hvt
   have o1:∀x,Glob x→Calls Tryz.prog 44 #[.agg #[.int .i64 n, .int .i64 r, .int .i64 m], .int .i64 c, .int .i64 k] x fun e w'=>e= .returned (.tuple #[.agg #[.int .i64 b1, .int .i64 r1], .bool (decide (c≠k))])∧Below x.heap.size x w':=fun x hx=>by
    have:=of_all n r m c k hR hc hkn x hx
    rw [hs1] at this
    exact this
   have o2:∀x,Glob x→Calls Tryz.prog 44 #[.agg #[.int .i64 n, .int .i64 r, .int .i64 m], .int .i64 k, .int .i64 c] x fun e w'=>e= .returned (.tuple #[.agg #[.int .i64 b2, .int .i64 r2], .bool (decide (k≠c))])∧Below x.heap.size x w':=fun x hx=>by
    have:=of_all n r m k c hR hkn hc x hx
    rw [hs2] at this
    exact this
   have O1:=Lib.hid o1
   have O2:=Lib.hid o2
   generalize decide (c≠k)=ok1 at *
   generalize decide (k≠c)=ok2 at *
   have p0:=hF.p.cell 0
   have p1:=hF.p.cell 1
   have p2:=hF.p.cell 2
   simp only [List.getElem?_cons_zero,List.getElem?_cons_succ] at p0 p1 p2
   have hk0:(0:Int)≤(k:Int):=by omega
   have hk1:(k:Int)<(n:Int):=by omega
   have HF:=Lib.hid hF
   have HI:=Lib.hid hI
   clear hF hI o1 o2 hR hrb hc ho hn8 hbig hg
   go_wp2_with fail
   refine (O1.out _ HF.out.g).mono ?_
   rintro e u1 ⟨rfl,hb1⟩
   have f1:=(HF.out.fresh hb1).fresh ((Below.refl _ _).alloc (Nat.le_refl _) (.cells #[.int .i64 b1, .int .i64 r1] 106))
   have i1:=(HI.out.fresh hb1).fresh ((Below.refl _ _).alloc (Nat.le_refl _) (.cells #[.int .i64 b1, .int .i64 r1] 106))
   have d1:=Blk.new u1 106 [.int .i64 b1, .int .i64 r1]
   obtain ⟨u1a,hu1a⟩:∃v,v=u1.alloc (.cells #[.int .i64 b1, .int .i64 r1] 106):=⟨_,rfl⟩
   have HU1:=Lib.hid hu1a
   have F1:=Lib.hid (hu1a ▸ f1)
   have I1:=Lib.hid (hu1a ▸ i1)
   have D1:=Lib.hid (hu1a ▸ d1)
   clear f1 i1 d1 hu1a p0 p1 p2
   go_upto_region 6 with fail
   rw [←HU1.out]
   have p0:=F1.out.p.cell 0
   have p1:=F1.out.p.cell 1
   have p2:=F1.out.p.cell 2
   simp only [List.getElem?_cons_zero,List.getElem?_cons_succ] at p0 p1 p2
   go_wp2_with fail
   refine (O2.out _ F1.out.g).mono ?_
   rintro e u2 ⟨rfl,hb2⟩
   have hb2a:Below u1a.heap.size u1a (u2.alloc (.cells #[.int .i64 b2, .int .i64 r2] 106)):=hb2.alloc hb2.size _
   have f2:=F1.out.fresh hb2a
   have i2:=I1.out.fresh hb2a
   have d2:=Blk.new u2 106 [.int .i64 b2, .int .i64 r2]
   have d1:=D1.out.keep (Keep.ofFresh hb2a (B:=0) (F:=fun _=>False)) (fun q=>q)
   obtain ⟨u3,hu3⟩:∃v,v=u2.alloc (.cells #[.int .i64 b2, .int .i64 r2] 106):=⟨_,rfl⟩
   have HU3:=Lib.hid hu3
   rw [show u2.alloc (.cells [.int .i64 b2, .int .i64 r2].toArray 106)=u3 from hu3.symm] at d2
   rw [←hu3] at f2 i2 d1
   obtain ⟨hR,hrb,hc,ho,hn8,hbig,hg⟩:=HR.out
   have HG:=Lib.hid (gStage f2 i2 d1 d2 hs1 hn8 hrb hc hkn ho)
   have y0:=f2.k.cell 0
   have y1:=d1.cell 0
   have y2:=d1.cell 1
   simp only [List.getElem?_cons_zero,List.getElem?_cons_succ] at y0 y1 y2
   clear f2 i2 d1 d2 hb2a hb2 hu3 p0 p1 p2 hR hrb hc ho hn8 hbig hg
   go_upto_region 7 with fail
   rw [←HU3.out]
   have HS2:=Lib.hid hs2
   clear hs1 hs2
   go_region_law (first|(refine app_run_step rfl _ _ 66 66 rfl rfl rfl rfl HRUN.out ?_)|(go_simp;go_at_call 45;refine HG.out.mono ?_;rintro e x' ⟨a,rfl,A7,q7,w7,hr7,⟨z0,z1,z2⟩,za,z7,f7,HST⟩;have HRUN:=Lib.hid hr7;clear hr7;have HST:=Lib.hid HST))
   all_goals (
    obtain ⟨f4,d4,tg4,gb4,vf4,i4⟩:=HST.out
    obtain ⟨hR,hrb,hc,ho,hn8,hbig,hg⟩:=HR.out
    have HT:=Lib.hid (tStage f4 i4 d4 HS2.out hn8 hrb hc hkn ho)
    have y0:=f4.k.cell 1
    have y1:=d4.cell 0
    have y2:=d4.cell 1
    simp only [List.getElem?_cons_zero,List.getElem?_cons_succ] at y0 y1 y2
    clear f4 d4 i4 hR hrb hc ho hn8 hbig hg HST HRUN
    generalize w7.setCell ⟨w.heap.size+2,0,none⟩ (Value.slice A7 (k+1) q7)=u4 at HT y0 y1 y2 ⊢
    clear z0 z1 z2 za z7 f7
    go_upto_region 8 with fail
    go_region_law (first|(refine app_run_step rfl _ _ 67 67 rfl rfl rfl rfl HRUN2.out ?_)|(go_simp;go_at_call 46;refine HT.out.mono ?_;rintro e x8 ⟨a8,rfl,A8,q8,w8,hr8,⟨z0,z1,z2⟩,za,z7,f7,HST8⟩;have HRUN2:=Lib.hid hr8;clear hr8;have HST8:=Lib.hid HST8))
    all_goals (
     obtain ⟨f5,tg5,tk5,tt5,i5⟩:=HST8.out
     clear HRUN2 HST8 HT z0 z1 z2 za z7 f7
     have H5:=Lib.hid (And.intro f5 i5)
     clear f5 i5
     generalize w8.setCell ⟨w.heap.size+2,1,none⟩ (Value.slice A8 (k+1) q8)=u5 at H5 ⊢
     go_wp2_with fail
     go_roundw
     case rel=>exact ⟨k+1,by omega,by go_num,_,_,_,_,_,_,_,H5.out.1,H5.out.2⟩
     case measure=>simp [intOf];omega))
  ·have hkn:k=n:=by omega
   subst hkn
   have q0:=hF.k.cell 0
   have q1:=hF.k.cell 1
   have q2:=hF.k.cell 2
   have q3:=hF.k.cell 3
   have z0:=hF.z.cell 0
   have z1:=hF.z.cell 1
   have z2:=hF.z.cell 2
   have z3:=hF.z.cell 3
   have y0:=hF.z.free 0
   have y1:=hF.z.free 1
   have y2:=hF.z.free 2
   have y3:=hF.z.free 3
   simp only [List.getElem?_cons_zero,List.getElem?_cons_succ] at q0 q1 q2 q3 z0 z1 z2 z3
   obtain ⟨A1,q1',hvg⟩:=hI.givs.slice
   obtain ⟨A2,q2',hvt⟩:=hI.taks.slice
   subst hvg hvt
   have HH:=Lib.hid (And.intro hF hI)
   clear hF hI hR hrb hc ho hn8 hbig hg
   go_wp2_with fail
   obtain ⟨hF,hI⟩:=HH.out
   have hz:=(((hF.z.set 0 (.slice A1 k q1')).set 1 (.slice A2 k q2')).set 2 .nilIface).set 3 (.int .i64 0)
   have hkp:Keep (fun q=>q=w.heap.size+1) wr ((((wr.setCell ⟨w.heap.size+1,0,none⟩ (.slice A1 k q1')).setCell ⟨w.heap.size+1,1,none⟩ (.slice A2 k q2')).setCell ⟨w.heap.size+1,2,none⟩ .nilIface).setCell ⟨w.heap.size+1,3,none⟩ (.int .i64 0)):=
    ((((Keep.refl (fun q=>q=w.heap.size+1) wr).setCell (p:=⟨w.heap.size+1,0,none⟩) (fun _=>rfl) _).setCell (p:=⟨w.heap.size+1,1,none⟩) (fun _=>rfl) _).setCell (p:=⟨w.heap.size+1,2,none⟩) (fun _=>rfl) _).setCell (p:=⟨w.heap.size+1,3,none⟩) (fun _=>rfl) _
   refine bodyPost_ret (results_cell_row rfl _ _ (w.heap.size+1) 71 #[.slice A1 k q1', .slice A2 k q2', .nilIface, .int .i64 0] (0,0) _ rfl hz Tryz.underlying71 rfl size71) rfl ?_
   exact ⟨_,_,rfl,⟨tg,gb,vf,tk,tt,hI.keep hkp (fun q h e=>by omega)⟩,hF.b.trans (Keep.toBelow (hkp.mono (fun q _ e=>by omega)) hF.b.size)⟩
end Go.Proofs.YtaaffebnajjfhaaGreatDoor.T
