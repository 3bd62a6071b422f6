/- Texts of this proof, merged: Hd3. -/
import Derived.Test.YtaaffebnajjfhaaGreatDoorH47
import Derived.Deep.RegionHeld3
namespace Go.Proofs.YtaaffebnajjfhaaGreatDoor.T
set_option linter.unusedVariables false
set_option linter.unusedSimpArgs false
set_option linter.unusedSectionVars false
open Go.RowKit
theorem body_read {w u:World} {g off:Nat} {ws body:List Int} (hws:∃a b c,ws=a :: b :: c :: body) (hg:g<w.heap.size) (hb:Below w.heap.size w u)
  (hcell:∀j,j<ws.length→w.cell? ⟨g,off+j,none⟩=some (.int .i64 (ws.getD j 0))):ReadI u (.slice (if ws.length=3 then some ⟨g,off,none⟩ else some ⟨g,off+3,none⟩) body.length body.length) body:=by
 obtain ⟨a,b,c,rfl⟩:=hws
 by_cases h3:(a :: b :: c :: body).length=3
 ·have e:body= []:=List.eq_nil_of_length_eq_zero (by simpa using h3)
  subst e
  exact .inl ⟨rfl,_,_,rfl⟩
 rw [if_neg h3]
 refine .inr ⟨g,off+3,body.length,rfl,Nat.lt_of_lt_of_le hg hb.size,Nat.le_refl _,fun j hj=> ?_⟩
 rw [hb.cell (by exact hg)]
 have:=hcell (j+3) (by simp;omega)
 rw [show off+3+j=off+(j+3) by omega,this]
 rfl
def MFin (w1 wx:World) (m:Msg) (p:Nat) (A3:Option Addr) (q3:Nat):Prop:=
 w1.heap.size≤p∧Blk wx p 43 [.int .i64 m.kind, .int .i64 m.dst, .int .i64 m.src, .slice A3 m.body.length q3]∧RowI wx (.slice A3 m.body.length q3) m.body∧(∀k,(Value.slice A3 m.body.length q3).ownBlock=some k→w1.heap.size≤k)∧Below w1.heap.size w1 wx
theorem MFin.new {w1 w3:World} {m:Msg} {A3:Option Addr} {q3:Nat} (hT:RowI w3 (.slice A3 m.body.length q3) m.body∧(∀k,(Value.slice A3 m.body.length q3).ownBlock=some k→w1.heap.size≤k)∧Below w1.heap.size w1 w3):
  MFin w1 (w3.alloc (.cells #[.int .i64 m.kind, .int .i64 m.dst, .int .i64 m.src, .slice A3 m.body.length q3] 43)) m w3.heap.size A3 q3:=
 ⟨hT.2.2.size,Blk.new _ _ _,Row.below hT.1 ((Below.refl _ _).alloc (Nat.le_refl _) _),hT.2.1,hT.2.2.alloc hT.2.2.size _⟩
theorem MFin.set {w1 w3:World} {m:Msg} {A3:Option Addr} {q3:Nat} (hT:RowI w3 (.slice A3 m.body.length q3) m.body∧(∀k,(Value.slice A3 m.body.length q3).ownBlock=some k→w1.heap.size≤k)∧Below w1.heap.size w1 w3)
  (hk:Blk w3 w1.heap.size 43 [.int .i64 0, .int .i64 0, .int .i64 0, .slice none 0 0]):
  MFin w1 ((((w3.setCell ⟨w1.heap.size,0,none⟩ (.int .i64 m.kind)).setCell ⟨w1.heap.size,1,none⟩ (.int .i64 m.dst)).setCell ⟨w1.heap.size,2,none⟩ (.int .i64 m.src)).setCell ⟨w1.heap.size,3,none⟩ (.slice A3 m.body.length q3)) m w1.heap.size A3 q3:=by
 have k1:=hk.set 0 (.int .i64 m.kind)
 have k2:=k1.set 1 (.int .i64 m.dst)
 have k3:=k2.set 2 (.int .i64 m.src)
 have k4:=k3.set 3 (.slice A3 m.body.length q3)
 have r1:=Row.far hT.1 hk (by decide) 0 (.int .i64 m.kind)
 have r2:=Row.far r1 k1 (by decide) 1 (.int .i64 m.dst)
 have r3:=Row.far r2 k2 (by decide) 2 (.int .i64 m.src)
 have r4:=Row.far r3 k3 (by decide) 3 (.slice A3 m.body.length q3)
 refine ⟨Nat.le_refl _,k4,r4,hT.2.1, ?_⟩
 exact (((hT.2.2.setCell (Nat.le_refl _) _).setCell (Nat.le_refl _) _).setCell (Nat.le_refl _) _).setCell (Nat.le_refl _) _
set_option maxHeartbeats 2000000 in
set_option maxRecDepth 100000 in
theorem mRead_any (m:Msg) (v:Value) (w:World) (h:ReadI w v m.words) (hw:m.wrong=0):
  Calls Tryz.prog 36 #[v] w fun e w'=>∃bv,e= .returned (.tuple #[.agg #[.int .i64 m.kind, .int .i64 m.dst, .int .i64 m.src,bv], .int .i64 0])∧RowI w' bv m.body∧(∀k,bv.ownBlock=some k→w.heap.size≤k)∧Below w.heap.size w w':=by
 obtain ⟨r5,r0,r2, -, -, -⟩:=right_m hw
 have hlen:m.words.length=3+m.body.length:=by simp [Msg.words];omega
 obtain ⟨g,off,c,rfl,hg,hc,hcell⟩:∃g off c,v= .slice (some ⟨g,off,none⟩) m.words.length c∧g<w.heap.size∧m.words.length≤c∧∀j,j<m.words.length→w.cell? ⟨g,off+j,none⟩=some (.int .i64 (m.words.getD j 0)):=by
  rcases h with ⟨e, -⟩|h
  ·rw [e] at hlen;simp at hlen;omega
  ·exact h
 have c0:=hcell 0 (by omega)
 have c1:=hcell 1 (by omega)
 have c2:=hcell 2 (by omega)
 have x0:m.words.getD 0 0=m.kind*256+m.body.length:=rfl
 have x1:m.words.getD 1 0=m.dst:=rfl
 have x2:m.words.getD 2 0=m.src:=rfl
 rw [x0] at c0
 rw [x1] at c1
 rw [x2] at c2
 obtain ⟨w1,hw1,hb1,hk1⟩:=msg_box 0 0 0 (.slice none 0 0) w
 have hS:w1.cell? ⟨g,off,none⟩=some (.int .i64 (m.kind*256+m.body.length))∧w1.cell? ⟨g,off+1,none⟩=some (.int .i64 m.dst)∧w1.cell? ⟨g,off+2,none⟩=some (.int .i64 m.src):=
  ⟨by rw [hb1.cell (by exact hg)];exact c0,by rw [hb1.cell (by exact hg)];exact c1,by rw [hb1.cell (by exact hg)];exact c2⟩
 have HC:=Lib.hid (show ∀u,Below w1.heap.size w1 u→Calls Tryz.prog 30 #[.slice (if m.words.length=3 then some ⟨g,off,none⟩ else some ⟨g,off+3,none⟩) m.body.length m.body.length] u fun e w'=>∃A3 q3,e= .returned (.slice A3 m.body.length q3)∧(RowI w' (.slice A3 m.body.length q3) m.body∧(∀k,(Value.slice A3 m.body.length q3).ownBlock=some k→w1.heap.size≤k)∧Below w1.heap.size w1 w')∧
  (w'.cell? ⟨g,off,none⟩=some (.int .i64 (m.kind*256+m.body.length))∧w'.cell? ⟨g,off+1,none⟩=some (.int .i64 m.dst)∧w'.cell? ⟨g,off+2,none⟩=some (.int .i64 m.src))∧w'.heap.size≠g∧Below u.heap.size u w' from fun u hb=>by
   refine (clone_any _ m.body (by omega) u (body_read ⟨_,_,_,rfl⟩ hg (hb1.trans (hb.mono hb1.size)) hcell)).mono ?_
   rintro e w' ⟨v',rfl,hR,hO,hB⟩
   have hB':=hb.trans (hB.mono hb.size)
   have hg1:g<w1.heap.size:=Nat.lt_of_lt_of_le hg hb1.size
   obtain ⟨A3,q3,hv, -, -⟩:=Row.slice hR
   subst hv
   have hsz:=hB'.size
   refine ⟨A3,q3,rfl,⟨hR,fun k q=>Nat.le_trans hb.size (hO k q),hB'⟩,⟨?_, ?_, ?_⟩,by omega,hB⟩
   ·rw [hB'.cell (by exact hg1)];exact hS.1
   ·rw [hB'.cell (by exact hg1)];exact hS.2.1
   ·rw [hB'.cell (by exact hg1)];exact hS.2.2)
 have HCa:=Lib.hid (show Calls Tryz.prog 30 #[.slice (if m.words.length=3 then some ⟨g,off,none⟩ else some ⟨g,off+3,none⟩) m.body.length m.body.length] (w1.drew.alloc (.cells #[.int .i64 0, .int .i64 0, .int .i64 0, .slice none 0 0] 43)) fun e w'=>∃A3 q3,e= .returned (.slice A3 m.body.length q3)∧(RowI w' (.slice A3 m.body.length q3) m.body∧(∀k,(Value.slice A3 m.body.length q3).ownBlock=some k→w1.heap.size≤k)∧Below w1.heap.size w1 w')∧
  (w'.cell? ⟨g,off,none⟩=some (.int .i64 (m.kind*256+m.body.length))∧w'.cell? ⟨g,off+1,none⟩=some (.int .i64 m.dst)∧w'.cell? ⟨g,off+2,none⟩=some (.int .i64 m.src))∧w'.heap.size≠g∧Blk w' w1.heap.size 43 [.int .i64 0, .int .i64 0, .int .i64 0, .slice none 0 0]∧w1.heap.size≠g from by
   refine (HC.out _ ((Below.refl _ _).drew.alloc (Nat.le_refl _) _)).mono ?_
   rintro e w3 ⟨A3,q3,rfl,HT,hS3,hne3,hB3⟩
   refine ⟨A3,q3,rfl,HT,hS3,hne3,(Blk.new w1.drew 43 [.int .i64 0, .int .i64 0, .int .i64 0, .slice none 0 0]).below hB3 (Blk.new w1.drew 43 [.int .i64 0, .int .i64 0, .int .i64 0, .slice none 0 0]).lt, ?_⟩
   have:=hb1.size
   omega)
 have HW:=Lib.hid hw1
 have HB1:=Lib.hid hb1
 have HK1:=Lib.hid hk1
 clear hcell h x0 x1 x2 c0 c1 c2 hw1 hb1 hk1
 generalize m.words.length=N at *
 have hi0:(0:Int)<(N:Int):=by omega
 have hi7:0<N:=by omega
 have hi1:(1:Int)<(N:Int):=by omega
 have hi2:(2:Int)<(N:Int):=by omega
 have hi3:(3:Int)≤(N:Int):=by omega
 have hi4: ¬(N:Int)<3:=by omega
 have hi5:(N:Int)≤(c:Int):=by omega
 have hi6:N-3=m.body.length:=by omega
 have HN:=Lib.hid hlen
 have hdv:(m.kind*256+m.body.length) / 256=m.kind:=by omega
 clear hlen hc
 generalize hA:(if N=3 then some (⟨g,off,none⟩:Addr) else some ⟨g,off+3,none⟩)=A at *
 go_enter Tryz.func36,Tryz.ntmps36
 go_upto_region 1 with fail
 rw [←HW.out]
 go_upto_region 3 with fail
 have hne:=World.new_ne w1 _ hS.1
 go_cut [4] from 9 to 26 (fun s4 wx=>∃p A3 q3,s4= .pointer (some ⟨p,0,none⟩)∧MFin w1 wx m p A3 q3)
 case first=>
  go_region_held3 (fun u=>u.cell? ⟨g,off,none⟩=some (.int .i64 (m.kind*256+m.body.length))∧u.cell? ⟨g,off+1,none⟩=some (.int .i64 m.dst)∧u.cell? ⟨g,off+2,none⟩=some (.int .i64 m.src)) (first|exact hS|assumption|go_keep) (first
   | (go_at_call 30;refine (HC.out _ (by first|exact Below.refl _ _|exact (Below.refl _ _).drew)).mono ?_;rintro e w3 ⟨A3,q3,rfl,HT,hS3,hne3,hB3⟩;have HT:=Lib.hid HT;clear hB3)
   | (go_at_call 30;refine HCa.out.mono ?_;rintro e w3 ⟨A3,q3,rfl,HT,hS3,hne3,hk3,hne4⟩;have z0:=hk3.cell 0;have z1:=hk3.cell 1;have z2:=hk3.cell 2;have z3:=hk3.cell 3;have y0:=hk3.free 0;have y1:=hk3.free 1;have y2:=hk3.free 2;have y3:=hk3.free 3;simp only [List.getElem?_cons_zero,List.getElem?_cons_succ] at z0 z1 z2 z3;have HT:=Lib.hid HT;have HK3:=Lib.hid hk3;clear hk3))
  all_goals (go_wp2_with fail;go_meet;first|exact ⟨_,_,_,rfl,MFin.new HT.out⟩|exact ⟨_,_,_,rfl,MFin.set HT.out HK3.out⟩)
 case rest=>
 obtain ⟨p,A3,q3,rfl,hp,hkp,hR,hO,hBx⟩:=hcut
 have hk2:=HK1.out.below hBx HK1.out.lt
 have z0:=hkp.cell 0
 have z1:=hkp.cell 1
 have z2:=hkp.cell 2
 have z3:=hkp.cell 3
 simp only [List.getElem?_cons_zero,List.getElem?_cons_succ] at z0 z1 z2 z3
 have hg1:g<w1.heap.size:=Nat.lt_of_lt_of_le hg HB1.out.size
 have s0:wc.cell? ⟨g,off,none⟩=some (.int .i64 (m.kind*256+m.body.length)):=by rw [hBx.cell (by exact hg1)];exact hS.1
 have hor:=or_len m.kind m.body.length r0 r2 r5
 have hwk:wrap64 (m.kind*256)=m.kind*256:=by unfold wrap64;omega
 have hor2:(m.kind*256+(m.body.length:Int) != bits BinOp.or IntKind.i64 (IntKind.i64.wrap (m.kind*256)) m.body.length)=false:=by
  rw [hwk] at hor
  rw [IntWalk.i64_in _ (by omega),hor]
  simp
 have hRt:∀u,Below wc.heap.size wc u→Calls Tryz.prog 15 #[.agg #[.int .i64 m.kind, .int .i64 m.dst, .int .i64 m.src, .slice A3 m.body.length q3]] u fun e w'=>e= .returned (.bool true)∧
   (w'.cell? ⟨p,0,none⟩=some (.int .i64 m.kind)∧w'.cell? ⟨p,1,none⟩=some (.int .i64 m.dst)∧w'.cell? ⟨p,2,none⟩=some (.int .i64 m.src)∧w'.cell? ⟨p,3,none⟩=some (.slice A3 m.body.length q3)∧w'.cell? ⟨g,off,none⟩=some (.int .i64 (m.kind*256+m.body.length)))∧Below wc.heap.size wc w':=by
  intro u hb
  refine (mRight_any m _ u (by omega) (RowI.read (Row.below hR hb))).mono ?_
  rintro e w' ⟨rfl,hB⟩
  have hB':=hb.trans (hB.mono hb.size)
  have hpl:=hkp.lt
  have hgl:g<wc.heap.size:=Nat.lt_of_lt_of_le hg1 hBx.size
  refine ⟨by rw [hw];rfl,⟨?_, ?_, ?_, ?_, ?_⟩,hB'⟩
  ·rw [hB'.cell (by exact hpl)];exact z0
  ·rw [hB'.cell (by exact hpl)];exact z1
  ·rw [hB'.cell (by exact hpl)];exact z2
  ·rw [hB'.cell (by exact hpl)];exact z3
  ·rw [hB'.cell (by exact hgl)];exact s0
 have HRt:=Lib.hid hRt
 have HF:=Lib.hid (And.intro hR (And.intro hO (And.intro hBx (And.intro hk2 hkp))))
 have HH:=Lib.hid (And.intro hS (And.intro hdv hor2))
 have hS5:=And.intro z0 (And.intro z1 (And.intro z2 (And.intro z3 s0)))
 clear hRt hR hO hBx hk2 hkp hS hdv hwk hor hor2 z0 z1 z2 z3 s0
 go_upto_region 4 with fail
 go_region_held3 (fun u=>u.cell? ⟨p,0,none⟩=some (.int .i64 m.kind)∧u.cell? ⟨p,1,none⟩=some (.int .i64 m.dst)∧u.cell? ⟨p,2,none⟩=some (.int .i64 m.src)∧u.cell? ⟨p,3,none⟩=some (.slice A3 m.body.length q3)∧u.cell? ⟨g,off,none⟩=some (.int .i64 (m.kind*256+m.body.length))) (first|exact hS5|assumption) (first|(go_at_call 15;refine (HRt.out _ (by first|exact Below.refl _ _|exact (Below.refl _ _).drew)).mono ?_;rintro e w5 ⟨rfl,hS6,HB5⟩;have HB5:=Lib.hid HB5))
 rw [HH.out.2.2]
 have hkr:=HF.out.2.2.2.1.keep (Keep.ofFresh HB5.out (B:=0) (F:=fun _=>False)) (fun q=>q)
 have hRr:=Row.below HF.out.1 HB5.out
 have y0:=hkr.cell 0
 have y1:=hkr.cell 1
 have y2:=hkr.cell 2
 have y3:=hkr.cell 3
 simp only [List.getElem?_cons_zero,List.getElem?_cons_succ] at y0 y1 y2 y3
 have f0:=hkr.free 0
 have f1:=hkr.free 1
 have f2:=hkr.free 2
 have f3:=hkr.free 3
 have k1:=hkr.set 0 (.int .i64 m.kind)
 have k2:=k1.set 1 (.int .i64 m.dst)
 have k3:=k2.set 2 (.int .i64 m.src)
 have k4:=k3.set 3 (.slice A3 m.body.length q3)
 have r1:=Row.far hRr hkr (by decide) 0 (.int .i64 m.kind)
 have r2:=Row.far r1 k1 (by decide) 1 (.int .i64 m.dst)
 have r3:=Row.far r2 k2 (by decide) 2 (.int .i64 m.src)
 have r4:=Row.far r3 k3 (by decide) 3 (.slice A3 m.body.length q3)
 have hs1:=HB1.out.size
 have hb5:=HB1.out.trans ((HF.out.2.2.1.trans (HB5.out.mono HF.out.2.2.1.size)).mono hs1)
 have hb6:=(((hb5.setCell (p:=⟨w.heap.size,0,none⟩) (Nat.le_refl _) (.int .i64 m.kind)).setCell (p:=⟨w.heap.size,1,none⟩) (Nat.le_refl _) (.int .i64 m.dst)).setCell (p:=⟨w.heap.size,2,none⟩) (Nat.le_refl _) (.int .i64 m.src)).setCell (p:=⟨w.heap.size,3,none⟩) (Nat.le_refl _) (.slice A3 m.body.length q3)
 have HE:=Lib.hid (And.intro r4 (And.intro (fun k q=>Nat.le_trans hs1 (HF.out.2.1 k q)) hb6))
 have HK:=Lib.hid k4
 clear r1 r2 r3 r4 k1 k2 k3 k4 hb5 hb6 hkr hRr
 go_wp2_with fail
 have e0:=HK.out.cell 0
 have e1:=HK.out.cell 1
 have e2:=HK.out.cell 2
 have e3:=HK.out.cell 3
 simp only [List.set_cons_zero,List.set_cons_succ,List.getElem?_cons_zero,List.getElem?_cons_succ] at e0 e1 e2 e3
 clear y0 y1 y2 y3 f0 f1 f2 f3 hS5 hS6
 refine bodyPost_ret (v:= .tuple #[.agg #[.int .i64 m.kind, .int .i64 m.dst, .int .i64 m.src, .slice A3 m.body.length q3], .int .i64 0]) (by simp [results,Tryz.results36,go_sem,e0,e1,e2,e3]) rfl ?_
 exact ⟨_,rfl,HE.out.1,HE.out.2.1,HE.out.2.2⟩
end Go.Proofs.YtaaffebnajjfhaaGreatDoor.T
