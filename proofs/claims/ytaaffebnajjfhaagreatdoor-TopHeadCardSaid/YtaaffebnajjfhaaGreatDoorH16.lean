/- Texts of this proof, merged: GStepB, GStepC, GStepD, GStepF. -/
import Derived.Test.YtaaffebnajjfhaaGreatDoorH10
namespace Go.Proofs.YtaaffebnajjfhaaGreatDoor.T
set_option linter.unusedVariables false
set_option linter.unusedSimpArgs false
set_option linter.unusedSectionVars false
open Go.RowKit
section
variable (b:Nat) (vf vo vl:Value) (g:Giv) (w:World) (p:Value) (x:Int) (T:World→Prop) (h:GivAt w b vf vo vl g) (hT:Calls Tryz.prog 158 #[.pointer (some ⟨b,0,none⟩),p] w fun e w'=>e= .returned (.int .i64 x)∧T w') (hg:∀w',T w'→GivAt w' b vf vo vl g)
include h hT hg
set_option maxHeartbeats 2000000 in
set_option maxRecDepth 100000 in
theorem gStep7w (hpc:g.pc=7) (y k:Nat) (hxx:x=(y:Int)) (hx:g.out.findIdx? (fun (z:Nat)=>(z:Int) == (y:Int))=some k) (hl0:0<g.left) (hl1:g.left≤65536) (hlen:g.free.length+g.out.length≤64) (g2:Giv) (hg2:g.back k y=g2) (hleft:g2.left=0) (d:Nat) (r:List Nat) (hfr:g2.free=d :: r) (hll:0<g.load.length):
  Calls Tryz.prog 157 #[.pointer (some ⟨b,0,none⟩),p] w fun e w'=>e= .returned (.tuple #[.bool false, .int .i64 0])∧∃w1,T w1∧GivTo w1 b vf vo vl ({ g2 with pc:=8,i:=0,d:=d,free:=r,out:=g2.out ++ [d] }) w':=by
 have c11:=h.blk.cell 11
 simp only [Giv.cells,List.getElem?_cons_zero,List.getElem?_cons_succ,hpc] at c11
 have HHX:=Lib.hid (And.intro hx (And.intro hl0 (And.intro hl1 hg2)));clear hx hl0 hl1 hg2
 subst hxx
 obtain ⟨Al,cl,hvl, -, -⟩:=Row.slice h.load
 subst hvl
 generalize hnl:(nats g.load).length=nl at *
 have nl0:(0:Int)<(nl:Int):=by rw [←hnl,nats_len];omega
 clear hll
 clear hnl
 have HT:=Lib.hid hT;clear hT
 have HG:=Lib.hid hg;clear hg h
 go_enter Tryz.func157,Tryz.ntmps157
 go_wp2_with fail
 refine wp_scope_once 1 rfl ?_
 go_wp2_with fail
 refine HT.out.mono ?_
 rintro e w1 ⟨rfl,ht⟩
 have hw1:=HG.out w1 ht
 have HW:=Lib.hid ht;clear ht
 have c11:=hw1.blk.cell 11
 simp only [Giv.cells,List.getElem?_cons_zero,List.getElem?_cons_succ,hpc] at c11
 have hs1:=GS.start hw1;clear hw1
 have HR:=Lib.hid (gReturned_yes b vf vo _ g y k HHX.out.1 hlen HHX.out.2.1 HHX.out.2.2.1 w1 hs1.giv)
 have HS1:=Lib.hid hs1;clear hs1
 have HLE:=Lib.hid hleft;clear hleft
 have HFR:=Lib.hid hfr;clear hfr
 have HLN:=Lib.hid hlen;clear hlen
 go_wp2_with fail
 refine HR.out.mono ?_
 rintro e w2 ⟨rfl,vf2,vo2,h2,hk2,ho2,hf2⟩
 have hs3:=HS1.out.back h2 hk2 ho2 hf2
 rw [HHX.out.2.2.2] at hs3
 have hln2:g2.free.length+g2.out.length≤64:=by
  have:=HHX.out.2.2.2
  subst this
  have hk:=(List.findIdx?_eq_some_iff_getElem.1 HHX.out.1).1
  have:=HLN.out
  show (g.free ++ [y]).length+(g.out.eraseIdx k).length≤64
  rw [List.length_append,List.length_eraseIdx,if_pos hk]
  simp only [List.length_cons,List.length_nil]
  omega
 clear h2 hk2 ho2 hf2
 obtain ⟨Ao,co,hvo, -, -⟩:=Row.slice hs3.giv.out
 obtain ⟨gf,of,cf,hvf, -, -,hfc⟩:=Row.cells hs3.giv.free (by rw [nats_len,HFR.out];simp)
 clear hfc
 subst hvo hvf
 generalize hno:(nats g2.out).length=no at *
 generalize hnf:(nats g2.free).length=nf at *
 have nf0:((nf:Int) == 0)=false:=by rw [beq_eq_false_iff_ne, ←hnf,nats_len,HFR.out];simp only [List.length_cons];omega
 have nf1:(0:Int)<(nf:Int):=by rw [←hnf,nats_len,HFR.out];simp only [List.length_cons];omega
 have no0:(0:Int)≤(no:Int):=by omega
 have HX:=Lib.hid (And.intro HFR.out (And.intro hln2 (And.intro hno hnf)));clear hln2 hno hnf
 have HS3:=Lib.hid hs3;clear hs3
 go_wp2_with fail
 go_step3
 refine ⟨rfl, ?_⟩
 have hs3:=HS3.out
 have hleft:=HLE.out
 have c7:=hs3.giv.blk.cell 7
 have c8:=hs3.giv.blk.cell 8
 have c11:=hs3.giv.blk.cell 11
 have c12:=hs3.giv.blk.cell 12
 have c13:=hs3.giv.blk.cell 13
 have c14:=hs3.giv.blk.cell 14
 have c16:=hs3.giv.blk.cell 16
 simp only [Giv.cells,List.getElem?_cons_zero,List.getElem?_cons_succ,hleft] at c7 c8 c11 c12 c13 c14 c16
 have f7:=hs3.giv.blk.free 7
 have f8:=hs3.giv.blk.free 8
 have f11:=hs3.giv.blk.free 11
 have f12:=hs3.giv.blk.free 12
 have f14:=hs3.giv.blk.free 14
 have hcf0:w2.cell? ⟨gf,of,none⟩=some (.int .i64 (d:Int)):=by
  obtain ⟨gf',of',cf',hvf', -, -,hcf⟩:=Row.cells hs3.giv.free (by rw [nats_len,HX.out.1];simp)
  have hcf0:=(hcf 0 (by rw [nats_len,HX.out.1];simp)).1
  injection hvf' with hv1 hv2 hv3
  injection hv1 with hv1
  injection hv1 with hv1 hv4
  subst hv1 hv4 hv3
  rw [show (ints (nats g2.free))[0]? = some (.int .i64 (d:Int)) by rw [HX.out.1];rfl,Nat.add_zero] at hcf0
  exact hcf0
 have hne:gf≠b:=fun e=>Row.ne hs3.giv.free hs3.giv.blk (by decide) (by rw [←e];rfl)
 have hne':b≠gf:=fun e=>hne e.symm
 have hs4:=((hs3.put (g':= { g2 with pc:=7 }) 11 (.int .i64 7) rfl rfl rfl rfl).put (g':= { g2 with pc:=7,i:=0 }) 12 (.int .i64 0) rfl rfl rfl rfl).put (g':= { g2 with pc:=7,i:=0,d:=d }) 14 (.int .i64 d) rfl rfl rfl rfl
 have hD:=delete_any _ (nats g2.free) 0 (by rw [nats_len,HX.out.1];simp) (by rw [nats_len];have:=HX.out.2.1;omega) _ hs4.giv.free
 rw [nats_erase,show g2.free.eraseIdx 0=r by rw [HX.out.1];rfl] at hD
 have HD:=Lib.hid hD;clear hD
 have HS4:=Lib.hid hs4;clear hs4 hs3
 go_wp2_with fail
 refine HD.out.mono ?_
 rintro e w4 ⟨vf4,rfl,hR4,ho4,hK4⟩
 have hs5:=HS4.out.setFree hK4 hR4 (fun q hq=> .inl (by rw [←ho4];exact hq))
 obtain ⟨A4,c4,hv4, -, -⟩:=Row.slice hR4
 subst hv4
 generalize hn4:(nats r).length=n4 at *
 have b4:=HS4.out.giv.blk.keep hK4 (fun e=>Row.ne HS4.out.giv.free HS4.out.giv.blk (by decide) e)
 have c7:w4.cell? ⟨b,7,none⟩=some (.slice (some ⟨gf,of,none⟩) nf cf):=b4.cell 7
 have f7:=b4.free 7
 clear b4 ho4 hK4 hR4
 go_wp2_with fail
 generalize w4.setCell ⟨b,7,none⟩ (Value.slice A4 n4 c4)=W5 at hs5 ⊢
 clear c7 f7 c8 c11 c12 c13 c14 c16 f8 f11 f12 f14
 have b5:=hs5.giv.blk
 have c8:W5.cell? ⟨b,8,none⟩=some (.slice Ao no co):=b5.cell 8
 have c14:W5.cell? ⟨b,14,none⟩=some (.int .i64 d):=b5.cell 14
 have b6:Blk (W5.drew.alloc (.cells #[.int .i64 (d:Int)] 3)) b 159 _:=b5.drew.alloc _
 have c86:(W5.alloc (.cells #[.int .i64 (d:Int)] 3)).cell? ⟨b,8,none⟩=some (.slice Ao no co):=b6.cell 8
 have r5:RowI W5.drew (.slice Ao no co) (nats g2.out):=hs5.giv.out
 have hP:∃A7 c7 w7,(Builtin.append_ #[31,31] 31 #[.slice Ao no co, .slice (some ⟨W5.heap.size,0,none⟩) 1 1]).run Tryz.prog (W5.drew.alloc (.cells #[.int .i64 (d:Int)] 3))= .ok (.slice A7 (no+1) c7) w7∧
   Row w7 3 1 (.slice A7 (no+1) c7) (no+1) (ints (nats g2.out) ++ [.int .i64 (d:Int)])∧(W5.drew.alloc (.cells #[.int .i64 (d:Int)] 3)).grownBy w7 (Value.slice Ao no co).ownBlock∧
   ((Value.slice A7 (no+1) c7).ownBlock=(Value.slice Ao no co).ownBlock∨∃b,(Value.slice A7 (no+1) c7).ownBlock=some b∧(W5.drew.alloc (.cells #[.int .i64 (d:Int)] 3)).heap.size≤b):=by
  have hx:=HX.out.2.2.1
  have hm:=HX.out.2.1
  have:=push_run W5.drew Ao co (nats g2.out) d (by rw [nats_len];omega) (by rw [hx];exact r5)
  rw [hx] at this
  exact this
 obtain ⟨A7,c7,w7,hr7,hR7,hg7,hat7⟩:=hP
 have b7:=b6.keep (Keep.grown hg7) (fun e=>Row.ne r5 b5.drew (by decide) e)
 have c87:w7.cell? ⟨b,8,none⟩=some (.slice Ao no co):=b7.cell 8
 have f87:=b7.free 8
 have HQ:=Lib.hid (And.intro hR7 (And.intro hg7 hat7))
 clear r5 b6 b5 hR7 hg7 hat7 b7
 have HR7:=Lib.hid hr7;clear hr7
 go_region_law (refine push_step rfl _ _ rfl rfl rfl rfl HR7.out ?_)
 all_goals (
  obtain ⟨q1,q2,q3⟩:=push_out (xs:=g2.out) HX.out.2.2.1 HQ.out.1 HQ.out.2.1 HQ.out.2.2
  have hs8:=hs5.setOut q2 q1 q3
  clear q1 q2 q3
  generalize w7.setCell ⟨b,8,none⟩ (Value.slice A7 (no+1) c7)=W8 at hs8 ⊢
  have c11:=hs8.giv.blk.cell 11
  have c12:=hs8.giv.blk.cell 12
  have c16:=hs8.giv.blk.cell 16
  simp only [Giv.cells,List.getElem?_cons_zero,List.getElem?_cons_succ] at c11 c12 c16
  have f11:=hs8.giv.blk.free 11
  go_wp2_with fail
  go_step3
  go_wp2_with fail
  go_region
  go_wp2_with fail
  rw [Exit.noGoto_ret]
  go_ret2
  exact ⟨rfl,w1,HW.out,((hs8.put (g':= { g2 with pc:=8,i:=0,d:=d,free:=r,out:=g2.out ++ [d] }) 11 (.int .i64 8) rfl rfl rfl rfl).drew).to⟩)
end
section
variable (b:Nat) (vf vo vl:Value) (g:Giv) (w:World) (p:Value) (x:Int) (T:World→Prop) (h:GivAt w b vf vo vl g) (hT:Calls Tryz.prog 158 #[.pointer (some ⟨b,0,none⟩),p] w fun e w'=>e= .returned (.int .i64 x)∧T w') (hg:∀w',T w'→GivAt w' b vf vo vl g)
include h hT hg
set_option maxHeartbeats 2000000 in
set_option maxRecDepth 100000 in
theorem gStep7s (hpc:g.pc=7) (y k:Nat) (hxx:x=(y:Int)) (hx:g.out.findIdx? (fun (z:Nat)=>(z:Int) == (y:Int))=some k) (hl0:0<g.left) (hl1:g.left≤65536) (hlen:g.free.length+g.out.length≤64) (g2:Giv) (hg2:g.back k y=g2) (hleft:g2.left=0) (d:Nat) (r:List Nat) (hfr:g2.free=d :: r) (hll:g.load.length=0):
  Calls Tryz.prog 157 #[.pointer (some ⟨b,0,none⟩),p] w fun e w'=>e= .returned (.tuple #[.bool false, .int .i64 0])∧∃w1,T w1∧GivTo w1 b vf vo vl ({ g2 with pc:=9,i:=0,d:=d,free:=r,out:=g2.out ++ [d] }) w':=by
 have c11:=h.blk.cell 11
 simp only [Giv.cells,List.getElem?_cons_zero,List.getElem?_cons_succ,hpc] at c11
 have HHX:=Lib.hid (And.intro hx (And.intro hl0 (And.intro hl1 hg2)));clear hx hl0 hl1 hg2
 subst hxx
 obtain ⟨Al,cl,hvl, -, -⟩:=Row.slice h.load
 subst hvl
 generalize hnl:(nats g.load).length=nl at *
 have nl0:nl=0:=by rw [←hnl,nats_len];exact hll
 subst nl0
 clear hll
 clear hnl
 have HT:=Lib.hid hT;clear hT
 have HG:=Lib.hid hg;clear hg h
 go_enter Tryz.func157,Tryz.ntmps157
 go_wp2_with fail
 refine wp_scope_once 1 rfl ?_
 go_wp2_with fail
 refine HT.out.mono ?_
 rintro e w1 ⟨rfl,ht⟩
 have hw1:=HG.out w1 ht
 have HW:=Lib.hid ht;clear ht
 have c11:=hw1.blk.cell 11
 simp only [Giv.cells,List.getElem?_cons_zero,List.getElem?_cons_succ,hpc] at c11
 have hs1:=GS.start hw1;clear hw1
 have HR:=Lib.hid (gReturned_yes b vf vo _ g y k HHX.out.1 hlen HHX.out.2.1 HHX.out.2.2.1 w1 hs1.giv)
 have HS1:=Lib.hid hs1;clear hs1
 have HLE:=Lib.hid hleft;clear hleft
 have HFR:=Lib.hid hfr;clear hfr
 have HLN:=Lib.hid hlen;clear hlen
 go_wp2_with fail
 refine HR.out.mono ?_
 rintro e w2 ⟨rfl,vf2,vo2,h2,hk2,ho2,hf2⟩
 have hs3:=HS1.out.back h2 hk2 ho2 hf2
 rw [HHX.out.2.2.2] at hs3
 have hln2:g2.free.length+g2.out.length≤64:=by
  have:=HHX.out.2.2.2
  subst this
  have hk:=(List.findIdx?_eq_some_iff_getElem.1 HHX.out.1).1
  have:=HLN.out
  show (g.free ++ [y]).length+(g.out.eraseIdx k).length≤64
  rw [List.length_append,List.length_eraseIdx,if_pos hk]
  simp only [List.length_cons,List.length_nil]
  omega
 clear h2 hk2 ho2 hf2
 obtain ⟨Ao,co,hvo, -, -⟩:=Row.slice hs3.giv.out
 obtain ⟨gf,of,cf,hvf, -, -,hfc⟩:=Row.cells hs3.giv.free (by rw [nats_len,HFR.out];simp)
 clear hfc
 subst hvo hvf
 generalize hno:(nats g2.out).length=no at *
 generalize hnf:(nats g2.free).length=nf at *
 have nf0:((nf:Int) == 0)=false:=by rw [beq_eq_false_iff_ne, ←hnf,nats_len,HFR.out];simp only [List.length_cons];omega
 have nf1:(0:Int)<(nf:Int):=by rw [←hnf,nats_len,HFR.out];simp only [List.length_cons];omega
 have no0:(0:Int)≤(no:Int):=by omega
 have HX:=Lib.hid (And.intro HFR.out (And.intro hln2 (And.intro hno hnf)));clear hln2 hno hnf
 have HS3:=Lib.hid hs3;clear hs3
 go_wp2_with fail
 go_step3
 refine ⟨rfl, ?_⟩
 have hs3:=HS3.out
 have hleft:=HLE.out
 have c7:=hs3.giv.blk.cell 7
 have c8:=hs3.giv.blk.cell 8
 have c11:=hs3.giv.blk.cell 11
 have c12:=hs3.giv.blk.cell 12
 have c13:=hs3.giv.blk.cell 13
 have c14:=hs3.giv.blk.cell 14
 have c16:=hs3.giv.blk.cell 16
 simp only [Giv.cells,List.getElem?_cons_zero,List.getElem?_cons_succ,hleft] at c7 c8 c11 c12 c13 c14 c16
 have f7:=hs3.giv.blk.free 7
 have f8:=hs3.giv.blk.free 8
 have f11:=hs3.giv.blk.free 11
 have f12:=hs3.giv.blk.free 12
 have f14:=hs3.giv.blk.free 14
 have hcf0:w2.cell? ⟨gf,of,none⟩=some (.int .i64 (d:Int)):=by
  obtain ⟨gf',of',cf',hvf', -, -,hcf⟩:=Row.cells hs3.giv.free (by rw [nats_len,HX.out.1];simp)
  have hcf0:=(hcf 0 (by rw [nats_len,HX.out.1];simp)).1
  injection hvf' with hv1 hv2 hv3
  injection hv1 with hv1
  injection hv1 with hv1 hv4
  subst hv1 hv4 hv3
  rw [show (ints (nats g2.free))[0]? = some (.int .i64 (d:Int)) by rw [HX.out.1];rfl,Nat.add_zero] at hcf0
  exact hcf0
 have hne:gf≠b:=fun e=>Row.ne hs3.giv.free hs3.giv.blk (by decide) (by rw [←e];rfl)
 have hne':b≠gf:=fun e=>hne e.symm
 have hs4:=((hs3.put (g':= { g2 with pc:=7 }) 11 (.int .i64 7) rfl rfl rfl rfl).put (g':= { g2 with pc:=7,i:=0 }) 12 (.int .i64 0) rfl rfl rfl rfl).put (g':= { g2 with pc:=7,i:=0,d:=d }) 14 (.int .i64 d) rfl rfl rfl rfl
 have hD:=delete_any _ (nats g2.free) 0 (by rw [nats_len,HX.out.1];simp) (by rw [nats_len];have:=HX.out.2.1;omega) _ hs4.giv.free
 rw [nats_erase,show g2.free.eraseIdx 0=r by rw [HX.out.1];rfl] at hD
 have HD:=Lib.hid hD;clear hD
 have HS4:=Lib.hid hs4;clear hs4 hs3
 go_wp2_with fail
 refine HD.out.mono ?_
 rintro e w4 ⟨vf4,rfl,hR4,ho4,hK4⟩
 have hs5:=HS4.out.setFree hK4 hR4 (fun q hq=> .inl (by rw [←ho4];exact hq))
 obtain ⟨A4,c4,hv4, -, -⟩:=Row.slice hR4
 subst hv4
 generalize hn4:(nats r).length=n4 at *
 have b4:=HS4.out.giv.blk.keep hK4 (fun e=>Row.ne HS4.out.giv.free HS4.out.giv.blk (by decide) e)
 have c7:w4.cell? ⟨b,7,none⟩=some (.slice (some ⟨gf,of,none⟩) nf cf):=b4.cell 7
 have f7:=b4.free 7
 clear b4 ho4 hK4 hR4
 go_wp2_with fail
 generalize w4.setCell ⟨b,7,none⟩ (Value.slice A4 n4 c4)=W5 at hs5 ⊢
 clear c7 f7 c8 c11 c12 c13 c14 c16 f8 f11 f12 f14
 have b5:=hs5.giv.blk
 have c8:W5.cell? ⟨b,8,none⟩=some (.slice Ao no co):=b5.cell 8
 have c14:W5.cell? ⟨b,14,none⟩=some (.int .i64 d):=b5.cell 14
 have b6:Blk (W5.drew.alloc (.cells #[.int .i64 (d:Int)] 3)) b 159 _:=b5.drew.alloc _
 have c86:(W5.alloc (.cells #[.int .i64 (d:Int)] 3)).cell? ⟨b,8,none⟩=some (.slice Ao no co):=b6.cell 8
 have r5:RowI W5.drew (.slice Ao no co) (nats g2.out):=hs5.giv.out
 have hP:∃A7 c7 w7,(Builtin.append_ #[31,31] 31 #[.slice Ao no co, .slice (some ⟨W5.heap.size,0,none⟩) 1 1]).run Tryz.prog (W5.drew.alloc (.cells #[.int .i64 (d:Int)] 3))= .ok (.slice A7 (no+1) c7) w7∧
   Row w7 3 1 (.slice A7 (no+1) c7) (no+1) (ints (nats g2.out) ++ [.int .i64 (d:Int)])∧(W5.drew.alloc (.cells #[.int .i64 (d:Int)] 3)).grownBy w7 (Value.slice Ao no co).ownBlock∧
   ((Value.slice A7 (no+1) c7).ownBlock=(Value.slice Ao no co).ownBlock∨∃b,(Value.slice A7 (no+1) c7).ownBlock=some b∧(W5.drew.alloc (.cells #[.int .i64 (d:Int)] 3)).heap.size≤b):=by
  have hx:=HX.out.2.2.1
  have hm:=HX.out.2.1
  have:=push_run W5.drew Ao co (nats g2.out) d (by rw [nats_len];omega) (by rw [hx];exact r5)
  rw [hx] at this
  exact this
 obtain ⟨A7,c7,w7,hr7,hR7,hg7,hat7⟩:=hP
 have b7:=b6.keep (Keep.grown hg7) (fun e=>Row.ne r5 b5.drew (by decide) e)
 have c87:w7.cell? ⟨b,8,none⟩=some (.slice Ao no co):=b7.cell 8
 have f87:=b7.free 8
 have HQ:=Lib.hid (And.intro hR7 (And.intro hg7 hat7))
 clear r5 b6 b5 hR7 hg7 hat7 b7
 have HR7:=Lib.hid hr7;clear hr7
 go_region_law (refine push_step rfl _ _ rfl rfl rfl rfl HR7.out ?_)
 all_goals (
  obtain ⟨q1,q2,q3⟩:=push_out (xs:=g2.out) HX.out.2.2.1 HQ.out.1 HQ.out.2.1 HQ.out.2.2
  have hs8:=hs5.setOut q2 q1 q3
  clear q1 q2 q3
  generalize w7.setCell ⟨b,8,none⟩ (Value.slice A7 (no+1) c7)=W8 at hs8 ⊢
  have c11:=hs8.giv.blk.cell 11
  have c12:=hs8.giv.blk.cell 12
  have c16:=hs8.giv.blk.cell 16
  simp only [Giv.cells,List.getElem?_cons_zero,List.getElem?_cons_succ] at c11 c12 c16
  have f11:=hs8.giv.blk.free 11
  go_wp2_with fail
  go_step3
  go_wp2_with fail
  go_region
  go_wp2_with fail
  rw [Exit.noGoto_ret]
  go_ret2
  exact ⟨rfl,w1,HW.out,(((hs8.put (g':= { g2 with pc:=8,i:=0,d:=d,free:=r,out:=g2.out ++ [d] }) 11 (.int .i64 8) rfl rfl rfl rfl).drew).put (g':= { g2 with pc:=9,i:=0,d:=d,free:=r,out:=g2.out ++ [d] }) 11 (.int .i64 9) rfl rfl rfl rfl).to⟩)
end
section
variable (b:Nat) (vf vo vl:Value) (g:Giv) (w:World) (p:Value) (x:Int) (T:World→Prop) (h:GivAt w b vf vo vl g) (hT:Calls Tryz.prog 158 #[.pointer (some ⟨b,0,none⟩),p] w fun e w'=>e= .returned (.int .i64 x)∧T w') (hg:∀w',T w'→GivAt w' b vf vo vl g)
include h hT hg
set_option maxRecDepth 100000 in
theorem gStep6c (hpc:g.pc=6) (l:Nat) (hl:(x-g.tail)%65536=(l:Int)) (hlt:g.out.length<l):
  Calls Tryz.prog 157 #[.pointer (some ⟨b,0,none⟩),p] w fun e w'=>e= .returned (.tuple #[.bool false, .int .i64 0])∧∃w1,T w1∧GivTo w1 b vf vo vl ({ g with left:=l,pc:=15,answer:=10 }) w':=by
 have c11:=h.blk.cell 11
 simp only [Giv.cells,List.getElem?_cons_zero,List.getElem?_cons_succ,hpc] at c11
 have hS:=sub_any x g.tail
 rw [hl] at hS
 have HS:=Lib.hid hS;clear hS hl
 obtain ⟨Ao,co,hvo, -, -⟩:=Row.slice h.out
 subst hvo
 have ll0:((nats g.out).length:Int)<(l:Int):=by rw [nats_len];omega
 generalize (nats g.out).length=no at *
 clear hlt
 have HT:=Lib.hid hT;clear hT
 have HG:=Lib.hid hg;clear hg h
 go_enter Tryz.func157,Tryz.ntmps157
 go_wp2_with fail
 refine wp_scope_once 0 rfl ?_
 go_wp2_with fail
 refine HT.out.mono ?_
 rintro e w1 ⟨rfl,ht⟩
 have hw1:=HG.out w1 ht
 have HW:=Lib.hid ht;clear ht
 have c11:=hw1.blk.cell 11
 simp only [Giv.cells,List.getElem?_cons_zero,List.getElem?_cons_succ,hpc] at c11
 have hs1:=GS.start hw1;clear hw1
 have c10:=hs1.giv.blk.cell 10
 have c13:=hs1.giv.blk.cell 13
 simp only [Giv.cells,List.getElem?_cons_zero,List.getElem?_cons_succ] at c10 c13
 have f13:=hs1.giv.blk.free 13
 go_wp2_with fail
 refine (HS.out _).mono ?_
 rintro e w2 ⟨rfl,rfl⟩
 have hs2:=hs1.put (g':= { g with left:=l }) 13 (.int .i64 l) rfl rfl rfl rfl
 clear hs1
 have c8:=hs2.giv.blk.cell 8
 have c13:=hs2.giv.blk.cell 13
 simp only [Giv.cells,List.getElem?_cons_zero,List.getElem?_cons_succ] at c8 c13
 go_wp2_with fail
 go_region
 go_wp2_with fail
 go_step3
 refine ⟨rfl, ?_⟩
 have hs3:=hs2.drew
 clear hs2 c8 c13
 generalize (w1.setCell ⟨b,13,none⟩ (Value.int IntKind.i64 (l:Int))).drew=W3 at hs3 ⊢
 have c11:=hs3.giv.blk.cell 11
 have c15:=hs3.giv.blk.cell 15
 simp only [Giv.cells,List.getElem?_cons_zero,List.getElem?_cons_succ] at c11 c15
 have f11:=hs3.giv.blk.free 11
 have f15:=hs3.giv.blk.free 15
 have HF:=Lib.hid ((hs3.put (g':= { g with left:=l,pc:=15 }) 11 (.int .i64 15) rfl rfl rfl rfl).put (g':= { g with left:=l,pc:=15,answer:=10 }) 15 (.int .i64 10) rfl rfl rfl rfl);clear hs3
 go_wp2_with fail
 rw [Exit.noGoto_ret]
 go_ret2
 exact ⟨rfl,w1,HW.out,HF.out.to⟩
set_option maxRecDepth 100000 in
theorem gStep6l (hpc:g.pc=6) (l:Nat) (hl:(x-g.tail)%65536=(l:Int)) (hlt:l≤g.out.length) (h0:0<l):
  Calls Tryz.prog 157 #[.pointer (some ⟨b,0,none⟩),p] w fun e w'=>e= .returned (.tuple #[.bool false, .int .i64 0])∧∃w1,T w1∧GivTo w1 b vf vo vl ({ g with left:=l,pc:=7,i:=0 }) w':=by
 have c11:=h.blk.cell 11
 simp only [Giv.cells,List.getElem?_cons_zero,List.getElem?_cons_succ,hpc] at c11
 have hS:=sub_any x g.tail
 rw [hl] at hS
 have HS:=Lib.hid hS;clear hS hl
 obtain ⟨Ao,co,hvo, -, -⟩:=Row.slice h.out
 subst hvo
 have ll0:(l:Int)≤((nats g.out).length:Int):=by rw [nats_len];omega
 have ll1:(0:Int)<(l:Int):=by omega
 generalize (nats g.out).length=no at *
 clear hlt h0
 have HT:=Lib.hid hT;clear hT
 have HG:=Lib.hid hg;clear hg h
 go_enter Tryz.func157,Tryz.ntmps157
 go_wp2_with fail
 refine wp_scope_once 1 rfl ?_
 go_wp2_with fail
 refine HT.out.mono ?_
 rintro e w1 ⟨rfl,ht⟩
 have hw1:=HG.out w1 ht
 have HW:=Lib.hid ht;clear ht
 have c11:=hw1.blk.cell 11
 simp only [Giv.cells,List.getElem?_cons_zero,List.getElem?_cons_succ,hpc] at c11
 have hs1:=GS.start hw1;clear hw1
 have c10:=hs1.giv.blk.cell 10
 have c13:=hs1.giv.blk.cell 13
 simp only [Giv.cells,List.getElem?_cons_zero,List.getElem?_cons_succ] at c10 c13
 have f13:=hs1.giv.blk.free 13
 go_wp2_with fail
 refine (HS.out _).mono ?_
 rintro e w2 ⟨rfl,rfl⟩
 have hs2:=hs1.put (g':= { g with left:=l }) 13 (.int .i64 l) rfl rfl rfl rfl
 clear hs1
 have c8:=hs2.giv.blk.cell 8
 have c13:=hs2.giv.blk.cell 13
 simp only [Giv.cells,List.getElem?_cons_zero,List.getElem?_cons_succ] at c8 c13
 go_wp2_with fail
 go_region
 go_wp2_with fail
 go_step3
 refine ⟨rfl, ?_⟩
 have hs3:=hs2.drew
 clear hs2 c8 c13
 generalize (w1.setCell ⟨b,13,none⟩ (Value.int IntKind.i64 (l:Int))).drew=W3 at hs3 ⊢
 have c11:=hs3.giv.blk.cell 11
 have c12:=hs3.giv.blk.cell 12
 have c13:=hs3.giv.blk.cell 13
 simp only [Giv.cells,List.getElem?_cons_zero,List.getElem?_cons_succ] at c11 c12 c13
 have f11:=hs3.giv.blk.free 11
 have f12:=hs3.giv.blk.free 12
 have HF:=Lib.hid ((hs3.put (g':= { g with left:=l,pc:=7 }) 11 (.int .i64 7) rfl rfl rfl rfl).put (g':= { g with left:=l,pc:=7,i:=0 }) 12 (.int .i64 0) rfl rfl rfl rfl);clear hs3
 go_wp2_with fail
 rw [Exit.noGoto_ret]
 go_ret2
 exact ⟨rfl,w1,HW.out,HF.out.to⟩
set_option maxRecDepth 100000 in
theorem gStep6f (hpc:g.pc=6) (hl:(x-g.tail)%65536=0) (hfr:g.free= []):
  Calls Tryz.prog 157 #[.pointer (some ⟨b,0,none⟩),p] w fun e w'=>e= .returned (.tuple #[.bool false, .int .i64 0])∧∃w1,T w1∧GivTo w1 b vf vo vl ({ g with left:=0,pc:=15,i:=0,answer:=5 }) w':=by
 have c11:=h.blk.cell 11
 simp only [Giv.cells,List.getElem?_cons_zero,List.getElem?_cons_succ,hpc] at c11
 have hS:=sub_any x g.tail
 rw [hl] at hS
 have HS:=Lib.hid hS;clear hS hl
 obtain ⟨Ao,co,hvo, -, -⟩:=Row.slice h.out
 obtain ⟨Af,cf,hvf, -, -⟩:=Row.slice h.free
 subst hvo hvf
 have no0:(0:Int)≤((nats g.out).length:Int):=by omega
 have nf0:(nats g.free).length=0:=by rw [nats_len,hfr];rfl
 generalize (nats g.out).length=no at *
 generalize (nats g.free).length=nf at *
 subst nf0
 clear hfr
 have HT:=Lib.hid hT;clear hT
 have HG:=Lib.hid hg;clear hg h
 go_enter Tryz.func157,Tryz.ntmps157
 go_wp2_with fail
 refine wp_scope_once 1 rfl ?_
 go_wp2_with fail
 refine HT.out.mono ?_
 rintro e w1 ⟨rfl,ht⟩
 have hw1:=HG.out w1 ht
 have HW:=Lib.hid ht;clear ht
 have c11:=hw1.blk.cell 11
 simp only [Giv.cells,List.getElem?_cons_zero,List.getElem?_cons_succ,hpc] at c11
 have hs1:=GS.start hw1;clear hw1
 have c10:=hs1.giv.blk.cell 10
 have c13:=hs1.giv.blk.cell 13
 simp only [Giv.cells,List.getElem?_cons_zero,List.getElem?_cons_succ] at c10 c13
 have f13:=hs1.giv.blk.free 13
 go_wp2_with fail
 refine (HS.out _).mono ?_
 rintro e w2 ⟨rfl,rfl⟩
 have hs2:=hs1.put (g':= { g with left:=0 }) 13 (.int .i64 0) rfl rfl rfl rfl
 clear hs1
 have c8:=hs2.giv.blk.cell 8
 have c13:=hs2.giv.blk.cell 13
 simp only [Giv.cells,List.getElem?_cons_zero,List.getElem?_cons_succ] at c8 c13
 go_wp2_with fail
 go_region
 go_wp2_with fail
 go_step3
 refine ⟨rfl, ?_⟩
 have hs3:=hs2.drew
 clear hs2 c8 c13
 generalize (w1.setCell ⟨b,13,none⟩ (Value.int IntKind.i64 0)).drew=W3 at hs3 ⊢
 have c7:=hs3.giv.blk.cell 7
 have c11:=hs3.giv.blk.cell 11
 have c12:=hs3.giv.blk.cell 12
 have c13:=hs3.giv.blk.cell 13
 have c15:=hs3.giv.blk.cell 15
 simp only [Giv.cells,List.getElem?_cons_zero,List.getElem?_cons_succ] at c7 c11 c12 c13 c15
 have f11:=hs3.giv.blk.free 11
 have f12:=hs3.giv.blk.free 12
 have f15:=hs3.giv.blk.free 15
 have HF:=Lib.hid ((((hs3.put (g':= { g with left:=0,pc:=7 }) 11 (.int .i64 7) rfl rfl rfl rfl).put (g':= { g with left:=0,pc:=7,i:=0 }) 12 (.int .i64 0) rfl rfl rfl rfl).put (g':= { g with left:=0,pc:=15,i:=0 }) 11 (.int .i64 15) rfl rfl rfl rfl).put (g':= { g with left:=0,pc:=15,i:=0,answer:=5 }) 15 (.int .i64 5) rfl rfl rfl rfl);clear hs3
 go_wp2_with fail
 rw [Exit.noGoto_ret]
 go_ret2
 exact ⟨rfl,w1,HW.out,HF.out.to⟩
set_option maxRecDepth 100000 in
theorem gStep7c (hpc:g.pc=7) (hx:g.out.findIdx? (fun (y:Nat)=>(y:Int) == x)=none) (hlen:g.out.length≤64):
  Calls Tryz.prog 157 #[.pointer (some ⟨b,0,none⟩),p] w fun e w'=>e= .returned (.tuple #[.bool false, .int .i64 0])∧∃w1,T w1∧GivTo w1 b vf vo vl (g.corrupt) w':=by
 have c11:=h.blk.cell 11
 simp only [Giv.cells,List.getElem?_cons_zero,List.getElem?_cons_succ,hpc] at c11
 have HT:=Lib.hid hT;clear hT
 have HG:=Lib.hid hg;clear hg h
 go_enter Tryz.func157,Tryz.ntmps157
 go_wp2_with fail
 refine wp_scope_once 0 rfl ?_
 go_wp2_with fail
 refine HT.out.mono ?_
 rintro e w1 ⟨rfl,ht⟩
 have hw1:=HG.out w1 ht
 have HW:=Lib.hid ht;clear ht
 have c11:=hw1.blk.cell 11
 simp only [Giv.cells,List.getElem?_cons_zero,List.getElem?_cons_succ,hpc] at c11
 have hs1:=GS.start hw1;clear hw1
 have HR:=Lib.hid (gReturned_no b vf vo vl g x hx hlen w1 hs1.giv)
 have HS1:=Lib.hid hs1;clear hs1 hx
 go_wp2_with fail
 refine HR.out.mono ?_
 rintro e w2 ⟨rfl,rfl⟩
 go_wp2_with fail
 go_step3
 refine ⟨rfl, ?_⟩
 have hs3:=HS1.out
 clear c11
 have c11:=hs3.giv.blk.cell 11
 have c15:=hs3.giv.blk.cell 15
 simp only [Giv.cells,List.getElem?_cons_zero,List.getElem?_cons_succ] at c11 c15
 have f11:=hs3.giv.blk.free 11
 have f15:=hs3.giv.blk.free 15
 have HF:=Lib.hid ((hs3.put (g':= { g with pc:=15 }) 11 (.int .i64 15) rfl rfl rfl rfl).put (g':=g.corrupt) 15 (.int .i64 10) rfl rfl rfl rfl);clear hs3
 go_wp2_with fail
 rw [Exit.noGoto_ret]
 go_ret2
 exact ⟨rfl,w1,HW.out,HF.out.to⟩
set_option maxRecDepth 100000 in
theorem gStep7l (hpc:g.pc=7) (y k:Nat) (hxx:x=(y:Int)) (hx:g.out.findIdx? (fun (z:Nat)=>(z:Int) == (y:Int))=some k) (hl0:0<g.left) (hl1:g.left≤65536) (hlen:g.free.length+g.out.length≤64) (g2:Giv) (hg2:g.back k y=g2) (hleft:0<g2.left):
  Calls Tryz.prog 157 #[.pointer (some ⟨b,0,none⟩),p] w fun e w'=>e= .returned (.tuple #[.bool false, .int .i64 0])∧∃w1,T w1∧GivTo w1 b vf vo vl ({ g2 with pc:=7,i:=0 }) w':=by
 have c11:=h.blk.cell 11
 simp only [Giv.cells,List.getElem?_cons_zero,List.getElem?_cons_succ,hpc] at c11
 subst hxx
 have HT:=Lib.hid hT;clear hT
 have HG:=Lib.hid hg;clear hg h
 go_enter Tryz.func157,Tryz.ntmps157
 go_wp2_with fail
 refine wp_scope_once 1 rfl ?_
 go_wp2_with fail
 refine HT.out.mono ?_
 rintro e w1 ⟨rfl,ht⟩
 have hw1:=HG.out w1 ht
 have HW:=Lib.hid ht;clear ht
 have c11:=hw1.blk.cell 11
 simp only [Giv.cells,List.getElem?_cons_zero,List.getElem?_cons_succ,hpc] at c11
 have hs1:=GS.start hw1;clear hw1
 have HR:=Lib.hid (gReturned_yes b vf vo _ g y k hx hlen hl0 hl1 w1 hs1.giv)
 have HS1:=Lib.hid hs1;clear hs1
 have HHX:=Lib.hid hg2;clear hx hl0 hl1 hg2
 have hl1:(0:Int)<(g2.left:Int):=by omega
 go_wp2_with fail
 refine HR.out.mono ?_
 rintro e w2 ⟨rfl,vf2,vo2,h2,hk2,ho2,hf2⟩
 have hs3:=HS1.out.back h2 hk2 ho2 hf2
 rw [HHX.out] at hs3
 clear h2 hk2 ho2 hf2
 have HS3:=Lib.hid hs3;clear hs3
 go_wp2_with fail
 go_step3
 refine ⟨rfl, ?_⟩
 have hs3:=HS3.out
 have c11:=hs3.giv.blk.cell 11
 have c12:=hs3.giv.blk.cell 12
 have c13:=hs3.giv.blk.cell 13
 simp only [Giv.cells,List.getElem?_cons_zero,List.getElem?_cons_succ] at c11 c12 c13
 have f11:=hs3.giv.blk.free 11
 have f12:=hs3.giv.blk.free 12
 have HF:=Lib.hid ((hs3.put (g':= { g2 with pc:=7 }) 11 (.int .i64 7) rfl rfl rfl rfl).put (g':= { g2 with pc:=7,i:=0 }) 12 (.int .i64 0) rfl rfl rfl rfl);clear hs3
 go_wp2_with fail
 rw [Exit.noGoto_ret]
 go_ret2
 exact ⟨rfl,w1,HW.out,HF.out.to⟩
end
section
variable (b:Nat) (vf vo vl:Value) (g:Giv) (w:World) (p:Value) (x:Int) (T:World→Prop) (h:GivAt w b vf vo vl g) (hT:Calls Tryz.prog 158 #[.pointer (some ⟨b,0,none⟩),p] w fun e w'=>e= .returned (.int .i64 x)∧T w') (hg:∀w',T w'→GivAt w' b vf vo vl g)
include h hT hg
set_option maxRecDepth 100000 in
theorem gStep2 (hpc:g.pc=2)  :
  Calls Tryz.prog 157 #[.pointer (some ⟨b,0,none⟩),p] w fun e w'=>e= .returned (.tuple #[.bool false, .int .i64 0])∧∃w1,T w1∧GivTo w1 b vf vo vl ({ g with pc:=3 }) w':=by
 have c11:=h.blk.cell 11
 simp only [Giv.cells,List.getElem?_cons_zero,List.getElem?_cons_succ,hpc] at c11
 have HT:=Lib.hid hT;clear hT
 have HG:=Lib.hid hg;clear hg h
 go_enter Tryz.func157,Tryz.ntmps157
 go_wp2_with fail
 go_step3
 go_wp2_with fail
 refine HT.out.mono ?_
 rintro e w1 ⟨rfl,ht⟩
 have hw1:=HG.out w1 ht
 have HW:=Lib.hid ht;clear ht
 have c11:=hw1.blk.cell 11
 simp only [Giv.cells,List.getElem?_cons_zero,List.getElem?_cons_succ,hpc] at c11
 have hs1:=GS.start hw1;clear hw1
 have f11:=hs1.giv.blk.free 11
 have HF:=Lib.hid (hs1.put (g':= { g with pc:=3 }) 11 (.int .i64 3) rfl rfl rfl rfl);clear hs1
 go_wp2_with fail
 rw [Exit.noGoto_ret]
 go_ret2
 exact ⟨rfl,w1,HW.out,HF.out.to⟩
set_option maxRecDepth 100000 in
theorem gStep3 (hpc:g.pc=3)  :
  Calls Tryz.prog 157 #[.pointer (some ⟨b,0,none⟩),p] w fun e w'=>e= .returned (.tuple #[.bool false, .int .i64 0])∧∃w1,T w1∧GivTo w1 b vf vo vl ({ g with pc:=4 }) w':=by
 have c11:=h.blk.cell 11
 simp only [Giv.cells,List.getElem?_cons_zero,List.getElem?_cons_succ,hpc] at c11
 have HT:=Lib.hid hT;clear hT
 have HG:=Lib.hid hg;clear hg h
 go_enter Tryz.func157,Tryz.ntmps157
 go_wp2_with fail
 go_step3
 go_wp2_with fail
 refine HT.out.mono ?_
 rintro e w1 ⟨rfl,ht⟩
 have hw1:=HG.out w1 ht
 have HW:=Lib.hid ht;clear ht
 have c11:=hw1.blk.cell 11
 simp only [Giv.cells,List.getElem?_cons_zero,List.getElem?_cons_succ,hpc] at c11
 have hs1:=GS.start hw1;clear hw1
 have f11:=hs1.giv.blk.free 11
 have HF:=Lib.hid (hs1.put (g':= { g with pc:=4 }) 11 (.int .i64 4) rfl rfl rfl rfl);clear hs1
 go_wp2_with fail
 rw [Exit.noGoto_ret]
 go_ret2
 exact ⟨rfl,w1,HW.out,HF.out.to⟩
set_option maxRecDepth 100000 in
theorem gStep9 (hpc:g.pc=9)  :
  Calls Tryz.prog 157 #[.pointer (some ⟨b,0,none⟩),p] w fun e w'=>e= .returned (.tuple #[.bool false, .int .i64 0])∧∃w1,T w1∧GivTo w1 b vf vo vl ({ g with pc:=10 }) w':=by
 have c11:=h.blk.cell 11
 simp only [Giv.cells,List.getElem?_cons_zero,List.getElem?_cons_succ,hpc] at c11
 have HT:=Lib.hid hT;clear hT
 have HG:=Lib.hid hg;clear hg h
 go_enter Tryz.func157,Tryz.ntmps157
 go_wp2_with fail
 go_step3
 go_wp2_with fail
 refine HT.out.mono ?_
 rintro e w1 ⟨rfl,ht⟩
 have hw1:=HG.out w1 ht
 have HW:=Lib.hid ht;clear ht
 have c11:=hw1.blk.cell 11
 simp only [Giv.cells,List.getElem?_cons_zero,List.getElem?_cons_succ,hpc] at c11
 have hs1:=GS.start hw1;clear hw1
 have f11:=hs1.giv.blk.free 11
 have HF:=Lib.hid (hs1.put (g':= { g with pc:=10 }) 11 (.int .i64 10) rfl rfl rfl rfl);clear hs1
 go_wp2_with fail
 rw [Exit.noGoto_ret]
 go_ret2
 exact ⟨rfl,w1,HW.out,HF.out.to⟩
set_option maxRecDepth 100000 in
theorem gStep10 (hpc:g.pc=10)  :
  Calls Tryz.prog 157 #[.pointer (some ⟨b,0,none⟩),p] w fun e w'=>e= .returned (.tuple #[.bool false, .int .i64 0])∧∃w1,T w1∧GivTo w1 b vf vo vl ({ g with pc:=11 }) w':=by
 have c11:=h.blk.cell 11
 simp only [Giv.cells,List.getElem?_cons_zero,List.getElem?_cons_succ,hpc] at c11
 have HT:=Lib.hid hT;clear hT
 have HG:=Lib.hid hg;clear hg h
 go_enter Tryz.func157,Tryz.ntmps157
 go_wp2_with fail
 go_step3
 go_wp2_with fail
 refine HT.out.mono ?_
 rintro e w1 ⟨rfl,ht⟩
 have hw1:=HG.out w1 ht
 have HW:=Lib.hid ht;clear ht
 have c11:=hw1.blk.cell 11
 simp only [Giv.cells,List.getElem?_cons_zero,List.getElem?_cons_succ,hpc] at c11
 have hs1:=GS.start hw1;clear hw1
 have f11:=hs1.giv.blk.free 11
 have HF:=Lib.hid (hs1.put (g':= { g with pc:=11 }) 11 (.int .i64 11) rfl rfl rfl rfl);clear hs1
 go_wp2_with fail
 rw [Exit.noGoto_ret]
 go_ret2
 exact ⟨rfl,w1,HW.out,HF.out.to⟩
set_option maxRecDepth 100000 in
theorem gStep11 (hpc:g.pc=11)  :
  Calls Tryz.prog 157 #[.pointer (some ⟨b,0,none⟩),p] w fun e w'=>e= .returned (.tuple #[.bool false, .int .i64 0])∧∃w1,T w1∧GivTo w1 b vf vo vl ({ g with pc:=12 }) w':=by
 have c11:=h.blk.cell 11
 simp only [Giv.cells,List.getElem?_cons_zero,List.getElem?_cons_succ,hpc] at c11
 have HT:=Lib.hid hT;clear hT
 have HG:=Lib.hid hg;clear hg h
 go_enter Tryz.func157,Tryz.ntmps157
 go_wp2_with fail
 go_step3
 go_wp2_with fail
 refine HT.out.mono ?_
 rintro e w1 ⟨rfl,ht⟩
 have hw1:=HG.out w1 ht
 have HW:=Lib.hid ht;clear ht
 have c11:=hw1.blk.cell 11
 simp only [Giv.cells,List.getElem?_cons_zero,List.getElem?_cons_succ,hpc] at c11
 have hs1:=GS.start hw1;clear hw1
 have f11:=hs1.giv.blk.free 11
 have HF:=Lib.hid (hs1.put (g':= { g with pc:=12 }) 11 (.int .i64 12) rfl rfl rfl rfl);clear hs1
 go_wp2_with fail
 rw [Exit.noGoto_ret]
 go_ret2
 exact ⟨rfl,w1,HW.out,HF.out.to⟩
set_option maxRecDepth 100000 in
theorem gStep12 (hpc:g.pc=12)  :
  Calls Tryz.prog 157 #[.pointer (some ⟨b,0,none⟩),p] w fun e w'=>e= .returned (.tuple #[.bool false, .int .i64 0])∧∃w1,T w1∧GivTo w1 b vf vo vl ({ g with pc:=13 }) w':=by
 have c11:=h.blk.cell 11
 simp only [Giv.cells,List.getElem?_cons_zero,List.getElem?_cons_succ,hpc] at c11
 have HT:=Lib.hid hT;clear hT
 have HG:=Lib.hid hg;clear hg h
 go_enter Tryz.func157,Tryz.ntmps157
 go_wp2_with fail
 go_step3
 go_wp2_with fail
 refine HT.out.mono ?_
 rintro e w1 ⟨rfl,ht⟩
 have hw1:=HG.out w1 ht
 have HW:=Lib.hid ht;clear ht
 have c11:=hw1.blk.cell 11
 simp only [Giv.cells,List.getElem?_cons_zero,List.getElem?_cons_succ,hpc] at c11
 have hs1:=GS.start hw1;clear hw1
 have f11:=hs1.giv.blk.free 11
 have HF:=Lib.hid (hs1.put (g':= { g with pc:=13 }) 11 (.int .i64 13) rfl rfl rfl rfl);clear hs1
 go_wp2_with fail
 rw [Exit.noGoto_ret]
 go_ret2
 exact ⟨rfl,w1,HW.out,HF.out.to⟩
set_option maxRecDepth 100000 in
theorem gStep13 (hpc:g.pc=13)  :
  Calls Tryz.prog 157 #[.pointer (some ⟨b,0,none⟩),p] w fun e w'=>e= .returned (.tuple #[.bool false, .int .i64 0])∧∃w1,T w1∧GivTo w1 b vf vo vl ({ g with pc:=14 }) w':=by
 have c11:=h.blk.cell 11
 simp only [Giv.cells,List.getElem?_cons_zero,List.getElem?_cons_succ,hpc] at c11
 have HT:=Lib.hid hT;clear hT
 have HG:=Lib.hid hg;clear hg h
 go_enter Tryz.func157,Tryz.ntmps157
 go_wp2_with fail
 go_step3
 go_wp2_with fail
 refine HT.out.mono ?_
 rintro e w1 ⟨rfl,ht⟩
 have hw1:=HG.out w1 ht
 have HW:=Lib.hid ht;clear ht
 have c11:=hw1.blk.cell 11
 simp only [Giv.cells,List.getElem?_cons_zero,List.getElem?_cons_succ,hpc] at c11
 have hs1:=GS.start hw1;clear hw1
 have f11:=hs1.giv.blk.free 11
 have HF:=Lib.hid (hs1.put (g':= { g with pc:=14 }) 11 (.int .i64 14) rfl rfl rfl rfl);clear hs1
 go_wp2_with fail
 rw [Exit.noGoto_ret]
 go_ret2
 exact ⟨rfl,w1,HW.out,HF.out.to⟩
end
end Go.Proofs.YtaaffebnajjfhaaGreatDoor.T
