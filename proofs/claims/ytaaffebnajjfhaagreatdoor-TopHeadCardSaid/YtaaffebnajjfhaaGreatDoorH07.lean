/- Texts of this proof, merged: Mbox, Ring, Site. -/
import Derived.Test.YtaaffebnajjfhaaGreatDoorH04
import Derived.Deep.RegionHeld3
import Derived.Deep.DrawnRows
import Derived.Deep.DeepCutAuto
namespace Go.Proofs.YtaaffebnajjfhaaGreatDoor.T
set_option linter.unusedVariables false
set_option linter.unusedSimpArgs false
set_option linter.unusedSectionVars false
open Go.RowKit
structure LaneAt (w:World) (l row f h:Nat):Prop where
 blk:Blk w l 188 [.slice (some ⟨row,0,none⟩) 16 16, .int .i64 f, .int .i64 h]
 row:∃xs,Blk w row 3 xs∧xs.length=16
 f16:f<16
 h16:h≤16
def LaneOk (w:World) (l row:Nat):Prop:=∃f h,LaneAt w l row f h
theorem LaneAt.keep {w w':World} {l row f h:Nat} {F:Nat→Prop} (H:LaneAt w l row f h) (hk:Keep F w w') (h1: ¬F l) (h2: ¬F row):LaneAt w' l row f h:=by
 obtain ⟨xs,hx,hl⟩:=H.row
 exact ⟨H.blk.keep hk h1,⟨xs,hx.keep hk h2,hl⟩,H.f16,H.h16⟩
set_option maxRecDepth 100000 in
theorem lat_any (l row f h i:Nat) (hi:i≤16) (w:World) (H:LaneAt w l row f h):
  Calls Tryz.prog 130 #[.pointer (some ⟨l,0,none⟩), .int .i64 i] w fun e w'=>e= .returned (.int .i64 (((f+i)%16:Nat):Int))∧w.drew=w':=by
 have h0:=H.blk.cell 0
 have h1:=H.blk.cell 1
 simp at h0 h1
 have hf:=H.f16
 clear H
 go_enter Tryz.func130,Tryz.ntmps130
 go_wp2_with fail
 go_region
 go_wp2_with fail
 go_ret
 exact ⟨by simp,rfl⟩
theorem llen_any (l row f h:Nat) (w:World) (H:LaneAt w l row f h):
  Calls Tryz.prog 125 #[.pointer (some ⟨l,0,none⟩)] w fun e w'=>e= .returned (.int .i64 h)∧w=w':=by
 have h2:=H.blk.cell 2
 simp at h2
 clear H
 go_enter Tryz.func125,Tryz.ntmps125
 go_wp2_with fail
 go_ret
 exact ⟨rfl,rfl⟩
theorem lclear_any (l row f h:Nat) (w:World) (H:LaneAt w l row f h):
  Calls Tryz.prog 100 #[.pointer (some ⟨l,0,none⟩)] w fun e w'=>(∃y:Int,e= .returned (.int .i64 y))∧LaneOk w' l row∧Keep (fun k=>k=l) w w':=by
 have h2:=H.blk.cell 2
 have f2:=H.blk.free 2
 simp at h2
 by_cases h0:h=0
 ·have e1:decide (0<(h:Int))=false:=by simp;omega
  have e2:decide (0<h)=false:=by simp;omega
  have HH:=Lib.hid H;clear H
  go_enter Tryz.func100,Tryz.ntmps100
  go_wp2_with fail
  refine (llen_any l row f h _ HH.out).mono ?_
  rintro e w' ⟨rfl,rfl⟩
  go_wp2_with fail
  go_ret
  exact ⟨⟨_,rfl⟩,⟨f,h,HH.out⟩,Keep.refl _ _⟩
 ·have e1:decide (0<(h:Int))=true:=by simp;omega
  have e2:decide (0<h)=true:=by simp;omega
  have HH:=Lib.hid H;clear H
  go_enter Tryz.func100,Tryz.ntmps100
  go_wp2_with fail
  refine (llen_any l row f h _ HH.out).mono ?_
  rintro e w' ⟨rfl,rfl⟩
  go_wp2_with fail
  go_ret
  obtain ⟨xs,hx,hl⟩:=HH.out.row
  exact ⟨⟨_,rfl⟩,⟨f,0,HH.out.blk.set 2 (.int .i64 0),⟨xs,hx.far (p:=⟨l,2,none⟩) (hx.ne HH.out.blk (by decide)) _,hl⟩,HH.out.f16,by omega⟩,Keep.setCell (F:=fun k=>k=l) (p:=⟨l,2,none⟩) (Keep.refl _ _) (fun _=>rfl) _⟩
set_option maxRecDepth 100000 in
theorem lput_any (l row f h:Nat) (x:Int) (w:World) (H:LaneAt w l row f h):
  Calls Tryz.prog 118 #[.pointer (some ⟨l,0,none⟩), .int .i64 x] w fun e w'=>(∃y:Int,e= .returned (.int .i64 y))∧LaneOk w' l row∧Keep (fun k=>k=l∨k=row) w w':=by
 have h0:=H.blk.cell 0
 have h2:=H.blk.cell 2
 have f2:=H.blk.free 2
 simp at h0 h2
 have hf:=H.f16
 have hh:=H.h16
 obtain ⟨xs,hx,hxl⟩:=H.row
 have hne:l≠row:=H.blk.ne hx (by decide)
 by_cases h16:h=16
 ·have e1:(h == 16)=true:=by rw [beq_iff_eq];exact h16
  have HH:=Lib.hid H;clear H h16
  go_enter Tryz.func118,Tryz.ntmps118
  go_wp2_with fail
  go_region
  go_wp2_with fail
  go_ret
  exact ⟨⟨_,rfl⟩,⟨f,h,HH.out.keep (Keep.refl (fun _=>False) w).drew (fun q=>q) (fun q=>q)⟩,(Keep.refl _ w).drew⟩
 ·have e1:(h == 16)=false:=by rw [beq_eq_false_iff_ne];exact h16
  have e2:((h:Int) == 16)=false:=by rw [beq_eq_false_iff_ne];omega
  have hlat:∀w,LaneAt w l row f h→_:=fun w H=>lat_any l row f h h hh w H
  have hj:(f+h)%16<16:=Nat.mod_lt _ (by decide)
  generalize (f+h)%16=j at *
  have hi0:(0:Int)≤(j:Int):=by omega
  have hi1:(j:Int)<16:=by omega
  have hcj:=hx.cell j
  have hfj:=hx.free j
  have hcj':(w.cell? ⟨row,j,none⟩).isSome=true:=by rw [hcj];simp [hxl,hj]
  obtain ⟨y0,hy0⟩:=Option.isSome_iff_exists.1 hcj'
  have HLA:=Lib.hid hlat;clear hlat
  have HH:=Lib.hid H;clear H hcj hcj'
  go_enter Tryz.func118,Tryz.ntmps118
  go_wp2_with fail
  go_region
  go_wp2_with fail
  go_region_held3 (fun u=>u.cell? ⟨l,0,none⟩=some (.slice (some ⟨row,0,none⟩) 16 16)∧u.cell? ⟨l,2,none⟩=some (.int .i64 h))
   (first|exact ⟨h0,h2⟩|exact ⟨(World.cell?_setCell_other _ _ _ _ (by simp [hne,Ne.symm hne])).trans h0,(World.cell?_setCell_other _ _ _ _ (by simp [hne,Ne.symm hne])).trans h2⟩)
   (first|(go_at_call 130;refine (HLA.out w.drew.drew ⟨HH.out.blk,HH.out.row,HH.out.f16,HH.out.h16⟩).mono ?_;rintro e w' ⟨rfl,rfl⟩))
  have hT:LaneAt (w.setCell ⟨row,j,none⟩ (.int .i64 x)) l row f h:=⟨HH.out.blk.far (p:=⟨row,j,none⟩) hne _,⟨_,hx.set _ _,by simp [hxl]⟩,HH.out.f16,HH.out.h16⟩
  have hK:Keep (fun k=>k=l∨k=row) w (w.setCell ⟨row,j,none⟩ (.int .i64 x)).drew.drew.drew:=((Keep.setCell (F:=fun k=>k=l∨k=row) (p:=⟨row,j,none⟩) (Keep.refl _ _) (fun _=> .inr rfl) _).drew.drew.drew)
  have hT3:LaneAt (w.setCell ⟨row,j,none⟩ (.int .i64 x)).drew.drew.drew l row f h:=⟨hT.blk,hT.row,hT.f16,hT.h16⟩
  generalize (w.setCell ⟨row,j,none⟩ (.int .i64 x)).drew.drew.drew=w3 at *
  clear hT
  have d2:=hT3.blk.cell 2
  have g2:=hT3.blk.free 2
  simp at d2
  have HT:=Lib.hid hT3;clear hT3 h0 h2 f2 hy0 hfj
  go_wp2_with fail
  go_ret
  obtain ⟨ys,hy,hyl⟩:=HT.out.row
  exact ⟨⟨_,rfl⟩,⟨f,h+1,by simpa using HT.out.blk.set 2 (.int .i64 ((h+1:Nat):Int)),⟨ys,hy.far (p:=⟨l,2,none⟩) (Ne.symm hne) _,hyl⟩,hf,by omega⟩,hK.setCell (p:=⟨l,2,none⟩) (fun _=> .inl rfl) _⟩
structure BoxL where
 box:Nat
 all:Nat
 cap:Nat
 lane:Nat→Nat
 room:Nat→Nat
structure BoxAt (w:World) (X:BoxL) (n:Nat):Prop where
 box:Blk w X.box 145 [.slice (some ⟨X.all,0,none⟩) n X.cap]
 all:∃cs,Blk w X.all 149 cs∧∀i,i<n→(∃y:Int,cs[i*2]? = some (.int .i64 y))∧cs[i*2+1]? = some (.pointer (some ⟨X.lane i,0,none⟩))
 lane:∀i,i<n→LaneOk w (X.lane i) (X.room i)
 n8:n≤8
def BoxF (X:BoxL) (n:Nat) (k:Nat):Prop:=k=X.all∨∃i,i<n∧(k=X.lane i∨k=X.room i)
theorem LaneOk.keep {w w':World} {l row:Nat} {F:Nat→Prop} (H:LaneOk w l row) (hk:Keep F w w') (h1: ¬F l) (h2: ¬F row):LaneOk w' l row:=by
 obtain ⟨f,h,H⟩:=H
 exact ⟨f,h,H.keep hk h1 h2⟩
theorem BoxAt.keep {w w':World} {X:BoxL} {n:Nat} {F:Nat→Prop} (H:BoxAt w X n) (hk:Keep F w w') (h1: ¬F X.box) (h2: ¬F X.all) (h3:∀i,i<n→ ¬F (X.lane i)∧ ¬F (X.room i)):BoxAt w' X n:=by
 obtain ⟨cs,hc,hcs⟩:=H.all
 exact ⟨H.box.keep hk h1,⟨cs,hc.keep hk h2,hcs⟩,fun i hi=>(H.lane i hi).keep hk (h3 i hi).1 (h3 i hi).2,H.n8⟩
theorem BoxAt.fresh {w w':World} {X:BoxL} {n:Nat} (H:BoxAt w X n) (hk:Below w.heap.size w w'):BoxAt w' X n:=
 H.keep (F:=fun _=>False) ⟨hk.os,hk.tape,hk.output,hk.size,fun k hk' _=>hk.block k hk'⟩ (fun q=>q) (fun q=>q) (fun _ _=>⟨fun q=>q,fun q=>q⟩)
theorem BoxAt.bits {w:World} {X:BoxL} {n:Nat} (H:BoxAt w X n) (i:Nat) (hi:i<n) (y:Int):BoxAt (w.setCell ⟨X.all,i*2,none⟩ (.int .i64 y)) X n∧Keep (BoxF X n) w (w.setCell ⟨X.all,i*2,none⟩ (.int .i64 y)):=by
 obtain ⟨cs,hc,hcs⟩:=H.all
 have hk:Keep (fun k=>k=X.all) w (w.setCell ⟨X.all,i*2,none⟩ (.int .i64 y)):=Keep.setCell (F:=fun k=>k=X.all) (p:=⟨X.all,i*2,none⟩) (Keep.refl _ _) (fun _=>rfl) _
 refine ⟨⟨H.box.keep hk (H.box.ne hc (by decide)),⟨_,hc.set _ _,fun j hj=>⟨?_, ?_⟩⟩,fun j hj=> ?_,H.n8⟩,hk.mono (fun k _ e=> .inl e)⟩
 ·obtain ⟨y0,hy0⟩:=(hcs j hj).1
  rw [List.getElem?_set]
  split
  ·exact ⟨y,by rw [if_pos];have:=(List.getElem?_eq_some_iff.1 hy0).1;omega⟩
  ·exact ⟨y0,hy0⟩
 ·rw [List.getElem?_set,if_neg (by omega)]
  exact (hcs j hj).2
 ·obtain ⟨f,h,hL⟩:=H.lane j hj
  obtain ⟨xs,hx,_⟩:=hL.row
  exact ⟨f,h,hL.keep hk (hL.blk.ne hc (by decide)) (hx.ne hc (by decide))⟩
theorem BoxAt.turn {w w':World} {X:BoxL} {n:Nat} (H:BoxAt w X n) (i:Nat) (hi:i<n) (hk:Keep (fun k=>k=X.lane i∨k=X.room i) w w') (hl:LaneOk w' (X.lane i) (X.room i)):BoxAt w' X n∧Keep (BoxF X n) w w':=by
 obtain ⟨cs,hc,hcs⟩:=H.all
 obtain ⟨f0,h0,hL0⟩:=H.lane i hi
 obtain ⟨xs0,hx0,_⟩:=hL0.row
 obtain ⟨f1,h1,hL1⟩:=hl
 obtain ⟨xs1,hx1,hxl1⟩:=hL1.row
 have ne:∀ {b:Nat} {ty:TypeId} {cs:List Value},Blk w b ty cs→ty≠188→ty≠3→ ¬(b=X.lane i∨b=X.room i):=fun hb t1 t2 e=>e.elim (hb.ne hL0.blk t1) (hb.ne hx0 t2)
 refine ⟨⟨H.box.keep hk (ne H.box (by decide) (by decide)),⟨cs,hc.keep hk (ne hc (by decide) (by decide)),hcs⟩,fun j hj=> ?_,H.n8⟩,hk.mono (fun k _ e=> .inr ⟨i,hi,e⟩)⟩
 obtain ⟨f,h,hL⟩:=H.lane j hj
 obtain ⟨xs,hx,hxl⟩:=hL.row
 have hrow:∃ys,Blk w' (X.room j) 3 ys∧ys.length=16:=by
  by_cases e:X.room j=X.room i
  ·rw [e];exact ⟨xs1,hx1,hxl1⟩
  ·exact ⟨xs,hx.keep hk (fun q=>q.elim (hx.ne hL0.blk (by decide)) e),hxl⟩
 by_cases e:X.lane j=X.lane i
 ·have hb:=hL1.blk
  rw [←e] at hb
  have h2:=hL.blk
  rw [e] at h2
  have hs:=(h2.same hL0.blk).2
  injection hs with hs _
  injection hs with hs _ _
  injection hs with hs
  injection hs with hs _
  rw [←hs] at hb
  exact ⟨f1,h1,hb,hrow,hL1.f16,hL1.h16⟩
 ·exact ⟨f,h,hL.blk.keep hk (fun q=>q.elim e (hL.blk.ne hx0 (by decide))),hrow,hL.f16,hL.h16⟩
set_option maxRecDepth 100000 in
theorem mask_any (X:BoxL) (n c:Nat) (hc:c<n) (g:Nat) (caps:Array Value) (R:Int→World→Prop) (w:World) (h:BoxAt w X n) (hen:Enters g)
  (hdo:Calls Tryz.prog g (#[.pointer (some ⟨X.all,c*2,none⟩)]++caps) w fun e w'=>∃r,e= .returned (.int .i64 r)∧R r w'):
  Calls Tryz.prog 98 #[.pointer (some ⟨X.box,0,none⟩), .int .i64 c, .func (.func g) #[] caps] w fun e w'=>∃r,e= .returned (.int .i64 r)∧R r w':=by
 have h1:=h.box.cell 0
 simp at h1
 have e1:decide ((c:Int)<0)=false:=by simp
 have e3:decide (n≤c)=false:=by simp;omega
 have hc0:(0:Int)≤(c:Int):=by omega
 have hc1:(c:Int)<(n:Int):=by omega
 have hn8:=h.n8
 have HB:=Lib.hid h;clear h
 have HD:=Lib.hid hdo;clear hdo
 go_enter Tryz.func98,Tryz.ntmps98
 go_wp2_with fail
 rw [hen,Oper.upon_enter]
 refine HD.out.mono ?_
 rintro e w' ⟨r,rfl,hR⟩
 have HR:=Lib.hid hR;clear hR
 go_wp2_with fail
 go_ret
 exact ⟨r,rfl,HR.out⟩
set_option maxRecDepth 100000 in
theorem reset1_any (X:BoxL) (n c:Nat) (hc:c<n) (b:Nat) (x:Value) (w:World) (h:BoxAt w X n) (h2:Blk w b 3 [x]) (hbF: ¬BoxF X n b):
  Calls Tryz.prog 99 #[.pointer (some ⟨X.all,c*2,none⟩), .pointer (some ⟨b,0,none⟩)] w fun e w'=>∃r,e= .returned (.int .i64 r)∧r=0∧BoxAt w' X n∧Keep (fun k=>BoxF X n k∨k=b) w w'∧∃y:Int,Blk w' b 3 [.int .i64 y]:=by
 obtain ⟨cs,hall,hcs⟩:=h.all
 obtain ⟨y0,hy0⟩:=(hcs c hc).1
 have c0:=hall.cell (c*2)
 have f0:=hall.free (c*2)
 rw [hy0] at c0
 obtain ⟨hB1,hK1⟩:=h.bits c hc 0
 have h2':=h2.keep hK1 hbF
 obtain ⟨cs',hall',hcs'⟩:=hB1.all
 have c1:=hall'.cell (c*2+1)
 rw [(hcs' c hc).2] at c1
 have HB:=Lib.hid h;clear h
 have HB1:=Lib.hid hB1;clear hB1
 go_enter Tryz.func99,Tryz.ntmps99
 go_wp2_with fail
 obtain ⟨f,hh,hL⟩:=HB1.out.lane c hc
 have HL:=Lib.hid hL;clear hL
 refine (lclear_any _ _ f hh _ HL.out).mono ?_
 rintro e w2 ⟨⟨y,rfl⟩,hL2,hK2⟩
 obtain ⟨hB2,hK2'⟩:=HB1.out.turn c hc (hK2.mono (fun k _ e=> .inl e)) hL2
 have h3:=h2'.keep hK2' hbF
 have c3:=h3.cell 0
 have f3:=h3.free 0
 simp at c3
 have HB2:=Lib.hid hB2;clear hB2 hL2
 go_wp2_with fail
 go_ret
 have hkb:Keep (fun k=>k=b) w2 (w2.setCell ⟨b,0,none⟩ (.int .i64 y)):=Keep.setCell (F:=fun k=>k=b) (p:=⟨b,0,none⟩) (Keep.refl _ _) (fun _=>rfl) _
 refine ⟨0,rfl,rfl,HB2.out.keep hkb (HB2.out.box.ne h3 (by decide)) (fun e=>hbF (.inl e.symm)) (fun i hi=>⟨fun e=>hbF (.inr ⟨i,hi, .inl e.symm⟩),fun e=>hbF (.inr ⟨i,hi, .inr e.symm⟩)⟩), ?_,y,h3.set 0 _⟩
 exact ((hK1.trans' hK2').mono (fun k _ e=> .inl e)).setCell (p:=⟨b,0,none⟩) (fun _=> .inr rfl) _
theorem boxF_new {w:World} {X:BoxL} {n:Nat} (h:BoxAt w X n) {b:Nat} (hb:w.heap.size≤b): ¬BoxF X n b:=by
 rintro (rfl|⟨i,hi,rfl|rfl⟩)
 ·obtain ⟨cs,hc,_⟩:=h.all
  have:=hc.lt;omega
 ·obtain ⟨f,hh,hL⟩:=h.lane i hi
  have:=hL.blk.lt;omega
 ·obtain ⟨f,hh,hL⟩:=h.lane i hi
  obtain ⟨xs,hx,_⟩:=hL.row
  have:=hx.lt;omega
theorem boxReset_any (X:BoxL) (n c:Nat) (hc:c<n) (w:World) (h:BoxAt w X n):
  Calls Tryz.prog 57 #[.pointer (some ⟨X.box,0,none⟩), .int .i64 c] w fun e w'=>(∃y:Int,e= .returned (.tuple #[.int .i64 y, .int .i64 0]))∧BoxAt w' X n∧Keep (BoxF X n) w w':=by
 obtain ⟨hb,h2⟩:=one_box w 3 (.int .i64 0)
 have hF: ¬BoxF X n w.heap.size:=boxF_new h (Nat.le_refl _)
 have H:=Lib.hid (h.fresh hb);clear h
 have HB:=Lib.hid (And.intro hb h2);clear hb h2
 go_enter Tryz.func57,Tryz.ntmps57
 go_wp2_with fail
 refine (mask_any X n c hc 99 #[.pointer (some ⟨w.heap.size,0,none⟩)] _ _ H.out (enters Tryz.func99 (by kernel_rfl) rfl) (reset1_any X n c hc _ _ _ H.out HB.out.2 hF)).mono ?_
 rintro e w1 ⟨r,rfl,rfl,hB1,hK1,y,h5⟩
 have hf:=h5.free 0
 have hc1:=h5.cell 0
 simp at hc1
 have h7:=h5.set 0 (.int .i64 y)
 have hkb:Keep (fun k=>k=w.heap.size) w1 (w1.setCell ⟨w.heap.size,0,none⟩ (.int .i64 y)):=Keep.setCell (F:=fun k=>k=w.heap.size) (p:=⟨w.heap.size,0,none⟩) (Keep.refl _ _) (fun _=>rfl) _
 have hB2:=hB1.keep hkb (hB1.box.ne h5 (by decide)) (fun e=>hF (.inl e.symm)) (fun i hi=>⟨fun e=>hF (.inr ⟨i,hi, .inl e.symm⟩),fun e=>hF (.inr ⟨i,hi, .inr e.symm⟩)⟩)
 have hK2:Keep (BoxF X n) w (w1.setCell ⟨w.heap.size,0,none⟩ (.int .i64 y)):=by
  refine (Keep.trans (Keep.ofFresh HB.out.1 (B:=0)) hK1 (fun k hk e=> ?_)).trans hkb (fun k hk e=> ?_)
  ·rcases e with e|e
   ·exact e
   ·omega
  ·omega
 have HT:=Lib.hid (And.intro hB2 hK2)
 clear hB1 hK1 hB2 hK2
 go_wp2_with fail
 refine bodyPost_ret (res_ct rfl rfl Tryz.underlying3 _ _ w.heap.size (.int .i64 y) rfl (by rw [h7.cell];rfl)) rfl ?_
 exact ⟨⟨y,rfl⟩,HT.out⟩
theorem BoxAt.drewN {w:World} {X:BoxL} {n:Nat} (h:BoxAt w X n) (k:Nat):BoxAt (w.drewN k) X n:=h.keep ((Keep.refl (fun _=>False) w).drewN k) (fun q=>q) (fun q=>q) (fun _ _=>⟨fun q=>q,fun q=>q⟩)
theorem BoxAt.drew {w:World} {X:BoxL} {n:Nat} (h:BoxAt w X n):BoxAt w.drew X n:=h.keep ((Keep.refl (fun _=>False) w).drew) (fun q=>q) (fun q=>q) (fun _ _=>⟨fun q=>q,fun q=>q⟩)
set_option maxRecDepth 100000 in
theorem ring11_any (X:BoxL) (n c d:Nat) (hc:c<n) (hd:d<n) (b1 b2:Nat) (w:World) (h:BoxAt w X n) (h1:Blk w b1 3 [.int .i64 c]) (h2:Blk w b2 3 [.int .i64 c]) (hF1: ¬BoxF X n b1) (hF2: ¬BoxF X n b2):
  Calls Tryz.prog 117 #[.pointer (some ⟨X.all,d*2,none⟩), .pointer (some ⟨b1,0,none⟩), .pointer (some ⟨b2,0,none⟩)] w fun e w'=>∃r,e= .returned (.int .i64 r)∧BoxAt w' X n∧Keep (BoxF X n) w w':=by
 obtain ⟨cs,hall,hcs⟩:=h.all
 obtain ⟨y0,hy0⟩:=(hcs d hd).1
 have c0:=hall.cell (d*2)
 have f0:=hall.free (d*2)
 rw [hy0] at c0
 have c1:=h1.cell 0
 have c2:=h2.cell 0
 simp at c1 c2
 have hn8:=h.n8
 have e1:((c:Int) != (c:Int)%65536)=false:=by rw [bne_eq_false_iff_eq];omega
 have e2:decide ((c:Int)<0)=false:=by simp
 have HB:=Lib.hid h;clear h
 go_enter Tryz.func117,Tryz.ntmps117
 go_wp2_with fail
 go_region_held3 (fun u=>u.cell? ⟨b1,0,none⟩=some (.int .i64 c))
  (first|exact c1)
  (first|(go_at_call 63;refine (word_any (c:Int) _).mono ?_;rintro e w' ⟨rfl,rfl⟩))
 go_wp2_with fail
 have c1d:w.drew.drew.cell? ⟨b1,0,none⟩=some (.int .i64 c):=c1
 have c2d:w.drew.drew.cell? ⟨b2,0,none⟩=some (.int .i64 c):=c2
 have c0d:w.drew.drew.cell? ⟨X.all,d*2,none⟩=some (.int .i64 y0):=c0
 have f0d:w.drew.drew.frozen? ⟨X.all,d*2,none⟩=false:=f0
 refine wp_region_still_tail 9 (by kernel_rfl) (by kernel_rfl) ?_
 simp only [List.take_succ_cons,List.take_zero,List.drop_succ_cons,List.drop_zero]
 change wpStill _ _ w.drew.drew _ _ _
 repeat still_step
 refine wpStill_nil ?_
 change wpList _ _ _ _ _ w.drew.drew
 generalize bits BinOp.or IntKind.i64 y0 (IntKind.i64.wrap (2 ^ c))=y
 obtain ⟨hB0,hK0⟩:=HB.out.bits d hd y
 have hB1:=hB0.drew.drew
 have hK1':=hK0.drew.drew
 have d1:=(h1.keep hK1' hF1).cell 0
 have d2:=(h2.keep hK1' hF2).cell 0
 simp only [List.getElem?_cons_zero] at d1 d2
 obtain ⟨cs1,hall1,hcs1⟩:=hB1.all
 have d3:=hall1.cell (d*2+1)
 rw [(hcs1 d hd).2] at d3
 have HB1:=Lib.hid hB1;clear hB1 hB0 hK0
 go_wp2_with fail
 generalize (w.setCell ⟨X.all,d*2,none⟩ (.int .i64 y)).drew.drew=w2 at *
 have d1d:w2.drew.cell? ⟨b1,0,none⟩=some (.int .i64 c):=d1
 have d2d:w2.drew.cell? ⟨b2,0,none⟩=some (.int .i64 c):=d2
 have d3d:w2.drew.cell? ⟨X.all,d*2+1,none⟩=some (.pointer (some ⟨X.lane d,0,none⟩)):=d3
 clear c0 c1 c2 c0d c1d c2d f0d f0 hall hcs hall1 hcs1 hy0
 refine wp_region_still_tail 8 (by kernel_rfl) (by kernel_rfl) ?_
 simp only [List.take_succ_cons,List.take_zero,List.drop_succ_cons,List.drop_zero]
 change wpStill _ _ w2.drew _ _ _
 repeat still_step
 refine wpStill_nil ?_
 change wpList _ _ _ _ _ w2.drew
 obtain ⟨f,hh,hL⟩:=HB1.out.drew.lane d hd
 have HL:=Lib.hid hL;clear hL
 go_wp2_with fail
 refine (lput_any _ _ f hh _ _ HL.out).mono ?_
 rintro e w3 ⟨⟨r,rfl⟩,hL3,hK3⟩
 obtain ⟨hB3,hK3'⟩:=HB1.out.drew.turn d hd hK3 hL3
 have HT:=Lib.hid (And.intro hB3 (hK1'.drew.trans' hK3'))
 clear hL3 hK3 hB3 hK3'
 go_wp2_with fail
 go_ret
 exact ⟨r,rfl,HT.out.1,HT.out.2⟩
set_option maxRecDepth 100000 in
theorem ring1_any (X:BoxL) (n c d:Nat) (hc:c<n) (hd:d<n) (b1 b2 b3 b4:Nat) (e:Value) (w:World) (h:BoxAt w X n) (h1:Blk w b1 96 [.pointer (some ⟨X.box,0,none⟩)]) (h2:Blk w b2 3 [.int .i64 d]) (h3:Blk w b3 3 [.int .i64 c]) (h4:Blk w b4 3 [.int .i64 c]) (hF3: ¬BoxF X n b3) (hF4: ¬BoxF X n b4):
  Calls Tryz.prog 116 #[e, .pointer (some ⟨b1,0,none⟩), .pointer (some ⟨b2,0,none⟩), .pointer (some ⟨b3,0,none⟩), .pointer (some ⟨b4,0,none⟩)] w fun e w'=>∃r,e= .returned (.int .i64 r)∧BoxAt w' X n∧Keep (BoxF X n) w w':=by
 have c1:=h1.cell 0
 have c2:=h2.cell 0
 simp at c1 c2
 have HB:=Lib.hid h;clear h
 go_enter Tryz.func116,Tryz.ntmps116
 go_wp2_with fail
 refine (mask_any X n d hd 117 #[.pointer (some ⟨b3,0,none⟩), .pointer (some ⟨b4,0,none⟩)] _ _ HB.out (enters Tryz.func117 (by kernel_rfl) rfl) (ring11_any X n c d hc hd b3 b4 _ HB.out h3 h4 hF3 hF4)).mono ?_
 rintro e w1 ⟨r,rfl,hB1,hK1⟩
 have HT:=Lib.hid (And.intro hB1 hK1)
 clear hB1 hK1
 go_wp2_with fail
 go_ret
 exact ⟨r,rfl,HT.out⟩
theorem four_boxes (w:World) (t1 t2 t3 t4:TypeId) (x y z u:Value):Below w.heap.size w ((((w.alloc (.cells #[x] t1)).alloc (.cells #[y] t2)).alloc (.cells #[z] t3)).alloc (.cells #[u] t4))∧Blk ((((w.alloc (.cells #[x] t1)).alloc (.cells #[y] t2)).alloc (.cells #[z] t3)).alloc (.cells #[u] t4)) w.heap.size t1 [x]∧
  Blk ((((w.alloc (.cells #[x] t1)).alloc (.cells #[y] t2)).alloc (.cells #[z] t3)).alloc (.cells #[u] t4)) (w.heap.size+1) t2 [y]∧Blk ((((w.alloc (.cells #[x] t1)).alloc (.cells #[y] t2)).alloc (.cells #[z] t3)).alloc (.cells #[u] t4)) (w.heap.size+2) t3 [z]∧
  Blk ((((w.alloc (.cells #[x] t1)).alloc (.cells #[y] t2)).alloc (.cells #[z] t3)).alloc (.cells #[u] t4)) (w.heap.size+3) t4 [u]:=by
 obtain ⟨h1,h2,h3,h4⟩:=three_boxes w t1 t2 t3 x y z
 refine ⟨h1.alloc (by simp;omega) _,h2.alloc _,h3.alloc _,h4.alloc _, ?_⟩
 have:=Blk.new (((w.alloc (.cells #[x] t1)).alloc (.cells #[y] t2)).alloc (.cells #[z] t3)) t4 [u]
 rwa [World.size_alloc,World.size_alloc,World.size_alloc] at this
set_option maxRecDepth 100000 in
theorem boxRing_any (X:BoxL) (n c d:Nat) (hc:c<n) (hd:d<n) (w:World) (h:BoxAt w X n):
  Calls Tryz.prog 69 #[.pointer (some ⟨X.box,0,none⟩), .int .i64 c, .int .i64 d, .int .i64 c] w fun e w'=>(∃r:Int,e= .returned (.int .i64 r))∧BoxAt w' X n∧Keep (BoxF X n) w w':=by
 obtain ⟨hb,h1,h2,h3,h4⟩:=four_boxes w 96 3 3 3 (.pointer (some ⟨X.box,0,none⟩)) (.int .i64 c) (.int .i64 d) (.int .i64 c)
 have hF1: ¬BoxF X n (w.heap.size+1):=boxF_new h (by omega)
 have hF3: ¬BoxF X n (w.heap.size+3):=boxF_new h (by omega)
 have H:=Lib.hid (h.fresh hb);clear h
 have HB:=Lib.hid (And.intro hb (And.intro h1 (And.intro h2 (And.intro h3 h4))));clear hb h1 h2 h3 h4
 go_enter Tryz.func69,Tryz.ntmps69
 go_wp2_with fail
 refine (mask_any X n c hc 116 #[.pointer (some ⟨w.heap.size,0,none⟩), .pointer (some ⟨w.heap.size+2,0,none⟩), .pointer (some ⟨w.heap.size+3,0,none⟩), .pointer (some ⟨w.heap.size+1,0,none⟩)] _ _ H.out (enters Tryz.func116 (by kernel_rfl) rfl)
  (ring1_any X n c d hc hd _ _ _ _ _ _ H.out HB.out.2.1 HB.out.2.2.2.1 HB.out.2.2.2.2 HB.out.2.2.1 hF3 hF1)).mono ?_
 rintro e w1 ⟨r,rfl,hB1,hK1⟩
 have HT:=Lib.hid (And.intro hB1 ((Keep.ofFresh HB.out.1 (B:=0)).trans' hK1))
 clear hB1 hK1
 go_wp2_with fail
 go_ret
 exact ⟨⟨r,rfl⟩,HT.out⟩
theorem below_yes (a b:Int) (h0:0≤a) (h1:a<b) (w:World):
  Calls Tryz.prog 79 #[.int .i64 a, .int .i64 b] w fun e w'=>e= .returned (.bool true)∧w=w':=by
 have e1:decide (0≤a)=true:=by simp;omega
 have e2:decide (a<b)=true:=by simp;omega
 go_enter Tryz.func79,Tryz.ntmps79
 go_wp2_with fail
 go_ret
 exact ⟨by simp [h1],rfl⟩
set_option maxRecDepth 100000 in
theorem siteRight_yes (n W:Nat) (h0:1≤n) (h1:n≤8) (h2:1≤W) (h3:W≤65536) (w:World):
  Calls Tryz.prog 39 #[.agg #[.int .i64 n, .int .i64 W, .int .i64 1]] w fun e w'=>e= .returned (.bool true)∧Below w.heap.size w w':=by
 have w1:IntKind.i64.wrap ((n:Int)-1)=(n:Int)-1:=by rw [IntKind.wrap_i64];omega
 have w2:IntKind.i64.wrap ((W:Int)-1)=(W:Int)-1:=by rw [IntKind.wrap_i64];omega
 go_enter Tryz.func39,Tryz.ntmps39
 go_wp2_with fail
 refine (below_yes _ _ (by omega) (by omega) _).mono ?_
 rintro e w' ⟨rfl,rfl⟩
 go_wp2_with fail
 refine (below_yes _ _ (by omega) (by omega) _).mono ?_
 rintro e w' ⟨rfl,rfl⟩
 go_wp2_with fail
 refine (below_yes _ _ (by omega) (by omega) _).mono ?_
 rintro e w' ⟨rfl,rfl⟩
 go_wp2_with fail
 go_ret
 exact ⟨rfl,(Below.refl _ w).alloc (Nat.le_refl _) _⟩
set_option maxRecDepth 100000 in
theorem enc_ram (n W a:Nat) (h0:1≤n) (h1:n≤8) (h2:1≤W) (h3:W≤65536) (ha:a<W) (w:World):
  Calls Tryz.prog 127 #[.agg #[.int .i64 n, .int .i64 W, .int .i64 1], .agg #[.int .i64 1, .int .i64 0, .int .i64 a]] w fun e w'=>e= .returned (.tuple #[.int .i64 a, .bool true])∧Below w.heap.size w w':=by
 have hB:Below w.heap.size w ((w.alloc (.cells #[.int .i64 n, .int .i64 W, .int .i64 1] 62)).alloc (.cells #[.int .i64 1, .int .i64 0, .int .i64 a] 124)):=((Below.refl _ w).alloc (Nat.le_refl _) _).alloc (by simp) _
 have p:=(Blk.new w 62 [.int .i64 n, .int .i64 W, .int .i64 1]).alloc (.cells #[.int .i64 1, .int .i64 0, .int .i64 a] 124)
 have s:=Blk.new (w.alloc (.cells #[.int .i64 n, .int .i64 W, .int .i64 1] 62)) 124 [.int .i64 1, .int .i64 0, .int .i64 a]
 rw [World.size_alloc] at s
 have p1:=p.cell 1
 have s1:=s.cell 1
 have s2:=s.cell 2
 simp only [List.getElem?_cons_zero,List.getElem?_cons_succ] at p1 s1 s2
 have HB:=Lib.hid hB;clear hB
 have HP:=Lib.hid p;clear p
 have HS:=Lib.hid s;clear s
 go_enter Tryz.func127,Tryz.ntmps127
 go_wp2_with fail
 go_region_held3 (fun u=>u.cell? ⟨w.heap.size,1,none⟩=some (.int .i64 W)∧u.cell? ⟨w.heap.size+1,1,none⟩=some (.int .i64 0)∧u.cell? ⟨w.heap.size+1,2,none⟩=some (.int .i64 a))
  (first|exact ⟨p1,s1,s2⟩)
  (first|(go_at_call 79;refine (below_yes _ _ (by omega) (by omega) _).mono ?_;rintro e w' ⟨rfl,rfl⟩))
 go_wp2_with fail
 refine (siteRight_yes n W h0 h1 h2 h3 _).mono ?_
 rintro e w1 ⟨rfl,hB1⟩
 go_wp2_with fail
 go_ret2
 exact ⟨rfl,HB.out.drew.trans (hB1.mono HB.out.size)⟩
set_option maxRecDepth 100000 in
theorem enc_mail (n W d:Nat) (h0:1≤n) (h1:n≤8) (h2:1≤W) (h3:W≤65536) (hd:d<n) (w:World):
  Calls Tryz.prog 127 #[.agg #[.int .i64 n, .int .i64 W, .int .i64 1], .agg #[.int .i64 2, .int .i64 d, .int .i64 2]] w fun e w'=>e= .returned (.tuple #[.int .i64 (65538+16*d), .bool true])∧Below w.heap.size w w':=by
 have hB:Below w.heap.size w ((w.alloc (.cells #[.int .i64 n, .int .i64 W, .int .i64 1] 62)).alloc (.cells #[.int .i64 2, .int .i64 d, .int .i64 2] 124)):=((Below.refl _ w).alloc (Nat.le_refl _) _).alloc (by simp) _
 have p:=(Blk.new w 62 [.int .i64 n, .int .i64 W, .int .i64 1]).alloc (.cells #[.int .i64 2, .int .i64 d, .int .i64 2] 124)
 have s:=Blk.new (w.alloc (.cells #[.int .i64 n, .int .i64 W, .int .i64 1] 62)) 124 [.int .i64 2, .int .i64 d, .int .i64 2]
 rw [World.size_alloc] at s
 have p1:=p.cell 0
 have s1:=s.cell 1
 have s2:=s.cell 2
 simp only [List.getElem?_cons_zero,List.getElem?_cons_succ] at p1 s1 s2
 have HB:=Lib.hid hB;clear hB
 have HP:=Lib.hid p;clear p
 have HS:=Lib.hid s;clear s
 go_enter Tryz.func127,Tryz.ntmps127
 go_wp2_with fail
 go_region_held3 (fun u=>u.cell? ⟨w.heap.size,0,none⟩=some (.int .i64 n)∧u.cell? ⟨w.heap.size+1,1,none⟩=some (.int .i64 d)∧u.cell? ⟨w.heap.size+1,2,none⟩=some (.int .i64 2))
  (first|exact ⟨p1,s1,s2⟩)
  (first|(go_at_call 79;refine (below_yes _ _ (by omega) (by omega) _).mono ?_;rintro e w' ⟨rfl,rfl⟩))
 go_wp2_with fail
 refine (siteRight_yes n W h0 h1 h2 h3 _).mono ?_
 rintro e w1 ⟨rfl,hB1⟩
 go_wp2_with fail
 go_ret2
 exact ⟨by simp [IntKind.wrap_i64];omega,HB.out.drew.trans (hB1.mono HB.out.size)⟩
set_option maxRecDepth 100000 in
theorem enc_gate (n W d:Nat) (h0:1≤n) (h1:n≤8) (h2:1≤W) (h3:W≤65536) (hd:d<n) (w:World):
  Calls Tryz.prog 127 #[.agg #[.int .i64 n, .int .i64 W, .int .i64 1], .agg #[.int .i64 4, .int .i64 d, .int .i64 0]] w fun e w'=>e= .returned (.tuple #[.int .i64 (66048+d), .bool true])∧Below w.heap.size w w':=by
 have hB:Below w.heap.size w ((w.alloc (.cells #[.int .i64 n, .int .i64 W, .int .i64 1] 62)).alloc (.cells #[.int .i64 4, .int .i64 d, .int .i64 0] 124)):=((Below.refl _ w).alloc (Nat.le_refl _) _).alloc (by simp) _
 have p:=(Blk.new w 62 [.int .i64 n, .int .i64 W, .int .i64 1]).alloc (.cells #[.int .i64 4, .int .i64 d, .int .i64 0] 124)
 have s:=Blk.new (w.alloc (.cells #[.int .i64 n, .int .i64 W, .int .i64 1] 62)) 124 [.int .i64 4, .int .i64 d, .int .i64 0]
 rw [World.size_alloc] at s
 have p1:=p.cell 0
 have s1:=s.cell 1
 have s2:=s.cell 2
 simp only [List.getElem?_cons_zero,List.getElem?_cons_succ] at p1 s1 s2
 have HB:=Lib.hid hB;clear hB
 have HP:=Lib.hid p;clear p
 have HS:=Lib.hid s;clear s
 go_enter Tryz.func127,Tryz.ntmps127
 go_wp2_with fail
 go_region_held3 (fun u=>u.cell? ⟨w.heap.size,0,none⟩=some (.int .i64 n)∧u.cell? ⟨w.heap.size+1,1,none⟩=some (.int .i64 d)∧u.cell? ⟨w.heap.size+1,2,none⟩=some (.int .i64 0))
  (first|exact ⟨p1,s1,s2⟩)
  (first|(go_at_call 79;refine (below_yes _ _ (by omega) (by omega) _).mono ?_;rintro e w' ⟨rfl,rfl⟩))
 go_wp2_with fail
 refine (siteRight_yes n W h0 h1 h2 h3 _).mono ?_
 rintro e w1 ⟨rfl,hB1⟩
 go_wp2_with fail
 go_ret2
 exact ⟨by simp [IntKind.wrap_i64];omega,HB.out.drew.trans (hB1.mono HB.out.size)⟩
end Go.Proofs.YtaaffebnajjfhaaGreatDoor.T
