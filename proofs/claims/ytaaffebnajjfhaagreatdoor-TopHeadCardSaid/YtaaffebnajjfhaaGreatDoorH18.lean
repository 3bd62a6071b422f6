/- Texts of this proof, merged: TStepD, Push, TStepE, TAll. -/
import Derived.Test.YtaaffebnajjfhaaGreatDoorH11
import Derived.Test.YtaaffebnajjfhaaGreatDoorH17
import Derived.Test.YtaaffebnajjfhaaGreatDoorH12
import Derived.Test.YtaaffebnajjfhaaGreatDoorH13
namespace Go.Proofs.YtaaffebnajjfhaaGreatDoor.T
set_option linter.unusedVariables false
set_option linter.unusedSimpArgs false
set_option linter.unusedSectionVars false
open Go.RowKit
section
variable (b tb:Nat) (vl:Value) (g:Tak) (w:World) (p:Value) (x:Int) (T:World→Prop) (h:TakAt w b tb vl g) (hT:Calls Tryz.prog 170 #[.pointer (some ⟨b,0,none⟩),p] w fun e w'=>e= .returned (.int .i64 x)∧T w') (hg:∀w',T w'→TakAt w' b tb vl g)
include h hT hg
set_option maxRecDepth 100000 in
theorem tStep8c (hpc:g.pc=8) (hx:8<x):
  Calls Tryz.prog 168 #[.pointer (some ⟨b,0,none⟩),p] w fun e w'=>e= .returned (.tuple #[.bool false, .int .i64 0])∧∃w1,T w1∧TakTo w1 b tb vl ({ g with answer:=10,pc:=14 }) w':=by
 have c10:=h.blk.cell 10
 simp only [Tak.cells,List.getElem?_cons_zero,List.getElem?_cons_succ,hpc] at c10
 have HT:=Lib.hid hT;clear hT
 have HG:=Lib.hid hg;clear hg h
 go_enter Tryz.func168,Tryz.ntmps168
 go_wp2_with fail
 refine wp_scope_once 1 rfl ?_
 go_wp2_with fail
 refine HT.out.mono ?_
 rintro e w1 ⟨rfl,ht⟩
 have hw1:=HG.out w1 ht
 have HW:=Lib.hid ht;clear ht
 have c10:=hw1.blk.cell 10
 simp only [Tak.cells,List.getElem?_cons_zero,List.getElem?_cons_succ,hpc] at c10
 have hs1:=TS.start hw1;clear hw1
 have HS1:=Lib.hid hs1;clear hs1
 go_wp2_with fail
 go_step3
 refine ⟨rfl, ?_⟩
 have hs3:=HS1.out
 clear c10
 have c10:=hs3.tak.blk.cell 10
 have c13:=hs3.tak.blk.cell 13
 simp only [Tak.cells,List.getElem?_cons_zero,List.getElem?_cons_succ] at c10 c13
 have f10:=hs3.tak.blk.free 10
 have f13:=hs3.tak.blk.free 13
 have HF:=Lib.hid ((hs3.put (g':= { g with answer:=10 }) 13 (.int .i64 10) rfl rfl rfl).put (g':= { g with answer:=10,pc:=14 }) 10 (.int .i64 14) rfl rfl rfl);clear hs3
 go_wp2_with fail
 go_step3
 go_wp2_with fail
 rw [Exit.noGoto_ret]
 go_ret2
 exact ⟨rfl,w1,HW.out,HF.out.to⟩
set_option maxRecDepth 100000 in
theorem tStep8w (hpc:g.pc=8) (hx:x≤8) (hx0:0≤x) (hll:g.load.length<x.toNat):
  Calls Tryz.prog 168 #[.pointer (some ⟨b,0,none⟩),p] w fun e w'=>e= .returned (.tuple #[.bool false, .int .i64 0])∧∃w1,T w1∧TakTo w1 b tb vl ({ g with many:=x.toNat,answer:=0,pc:=9 }) w':=by
 have c10:=h.blk.cell 10
 simp only [Tak.cells,List.getElem?_cons_zero,List.getElem?_cons_succ,hpc] at c10
 obtain ⟨Al,cl,hvl, -, -⟩:=Row.slice h.load
 subst hvl
 generalize hnl:(nats g.load).length=nl at *
 have nl0:(nl:Int)<x:=by rw [←hnl,nats_len];omega
 have hxx:((x.toNat:Nat):Int)=x:=by omega
 have HXX:=Lib.hid hxx
 clear hnl hll hxx
 have HT:=Lib.hid hT;clear hT
 have HG:=Lib.hid hg;clear hg h
 go_enter Tryz.func168,Tryz.ntmps168
 go_wp2_with fail
 refine wp_scope_once 2 rfl ?_
 go_wp2_with fail
 refine HT.out.mono ?_
 rintro e w1 ⟨rfl,ht⟩
 have hw1:=HG.out w1 ht
 have HW:=Lib.hid ht;clear ht
 have c10:=hw1.blk.cell 10
 simp only [Tak.cells,List.getElem?_cons_zero,List.getElem?_cons_succ,hpc] at c10
 have hs1:=TS.start hw1;clear hw1
 have c12:=hs1.tak.blk.cell 12
 simp only [Tak.cells,List.getElem?_cons_zero,List.getElem?_cons_succ] at c12
 have f10:=hs1.tak.blk.free 10
 have f12:=hs1.tak.blk.free 12
 have hs2:=(hs1.put (g':= { g with many:=x.toNat }) 12 (.int .i64 x) (by simp only [Tak.cells,HXX.out];rfl) rfl rfl).put (g':= { g with many:=x.toNat,pc:=9 }) 10 (.int .i64 9) rfl rfl rfl
 have HS2:=Lib.hid hs2;clear hs1 hs2
 go_wp2_with fail
 go_step3
 refine ⟨rfl, ?_⟩
 have hs3:=HS2.out
 clear c10 c12 f10 f12
 generalize (w1.setCell ⟨b,12,none⟩ (Value.int IntKind.i64 x)).setCell ⟨b,10,none⟩ (Value.int IntKind.i64 9)=W3 at hs3 ⊢
 have c12:W3.cell? ⟨b,12,none⟩=some (.int .i64 x):=by have:=hs3.tak.blk.cell 12;simpa [Tak.cells,HXX.out] using this
 have c13:=hs3.tak.blk.cell 13
 have c15:=hs3.tak.blk.cell 15
 simp only [Tak.cells,List.getElem?_cons_zero,List.getElem?_cons_succ] at c13 c15
 have f13:=hs3.tak.blk.free 13
 have hs4:=hs3.put (g':= { g with many:=x.toNat,pc:=9,answer:=0 }) 13 (.int .i64 0) rfl rfl rfl
 have HS4:=Lib.hid hs4;clear hs4 hs3
 go_wp2_with fail
 go_region
 go_wp2_with fail
 rw [Exit.noGoto_ret]
 go_ret2
 exact ⟨rfl,w1,HW.out,HS4.out.drew.to⟩
set_option maxRecDepth 100000 in
theorem tStep8d (hpc:g.pc=8) (hx:x≤8) (hx0:0≤x) (hll:x.toNat≤g.load.length):
  Calls Tryz.prog 168 #[.pointer (some ⟨b,0,none⟩),p] w fun e w'=>e= .returned (.tuple #[.bool false, .int .i64 0])∧∃w1,T w1∧TakTo w1 b tb vl ({ g with many:=x.toNat,answer:=0,pc:=14 }) w':=by
 have c10:=h.blk.cell 10
 simp only [Tak.cells,List.getElem?_cons_zero,List.getElem?_cons_succ,hpc] at c10
 obtain ⟨Al,cl,hvl, -, -⟩:=Row.slice h.load
 subst hvl
 generalize hnl:(nats g.load).length=nl at *
 have nl0:x≤(nl:Int):=by rw [←hnl,nats_len];omega
 have hxx:((x.toNat:Nat):Int)=x:=by omega
 have HXX:=Lib.hid hxx
 clear hnl hll hxx
 have HT:=Lib.hid hT;clear hT
 have HG:=Lib.hid hg;clear hg h
 go_enter Tryz.func168,Tryz.ntmps168
 go_wp2_with fail
 refine wp_scope_two 2 0 rfl rfl ?_
 go_wp2_with fail
 refine HT.out.mono ?_
 rintro e w1 ⟨rfl,ht⟩
 have hw1:=HG.out w1 ht
 have HW:=Lib.hid ht;clear ht
 have c10:=hw1.blk.cell 10
 simp only [Tak.cells,List.getElem?_cons_zero,List.getElem?_cons_succ,hpc] at c10
 have hs1:=TS.start hw1;clear hw1
 have c12:=hs1.tak.blk.cell 12
 simp only [Tak.cells,List.getElem?_cons_zero,List.getElem?_cons_succ] at c12
 have f10:=hs1.tak.blk.free 10
 have f12:=hs1.tak.blk.free 12
 have hs2:=(hs1.put (g':= { g with many:=x.toNat }) 12 (.int .i64 x) (by simp only [Tak.cells,HXX.out];rfl) rfl rfl).put (g':= { g with many:=x.toNat,pc:=9 }) 10 (.int .i64 9) rfl rfl rfl
 have HS2:=Lib.hid hs2;clear hs1 hs2
 go_wp2_with fail
 go_step3
 refine ⟨rfl, ?_⟩
 have hs3:=HS2.out
 clear c10 c12 f10 f12
 generalize (w1.setCell ⟨b,12,none⟩ (Value.int IntKind.i64 x)).setCell ⟨b,10,none⟩ (Value.int IntKind.i64 9)=W3 at hs3 ⊢
 have c12:W3.cell? ⟨b,12,none⟩=some (.int .i64 x):=by have:=hs3.tak.blk.cell 12;simpa [Tak.cells,HXX.out] using this
 have c13:=hs3.tak.blk.cell 13
 have c15:=hs3.tak.blk.cell 15
 simp only [Tak.cells,List.getElem?_cons_zero,List.getElem?_cons_succ] at c13 c15
 have f13:=hs3.tak.blk.free 13
 have hs4:=hs3.put (g':= { g with many:=x.toNat,pc:=9,answer:=0 }) 13 (.int .i64 0) rfl rfl rfl
 have HS4:=Lib.hid hs4;clear hs4 hs3
 go_wp2_with fail
 go_region
 go_wp2_with fail
 go_step3
 refine ⟨rfl, ?_⟩
 have hs5:=HS4.out.drew
 clear c12 c13 c15 f13
 have c10:=hs5.tak.blk.cell 10
 simp only [Tak.cells,List.getElem?_cons_zero,List.getElem?_cons_succ] at c10
 have f10:=hs5.tak.blk.free 10
 have HF:=Lib.hid (hs5.put (g':= { g with many:=x.toNat,answer:=0,pc:=14 }) 10 (.int .i64 14) rfl rfl rfl);clear hs5
 go_wp2_with fail
 rw [Exit.noGoto_ret]
 go_ret2
 exact ⟨rfl,w1,HW.out,HF.out.to⟩
end
theorem push_list {ops:Array Oper} {rest:List Oper} {o:Oper} {a:Act} {Q':Exit→Act→World→Prop} {W w':World} {v u v':Value} (hgd:o.guard=none) (s x:Operand)
  (ho:o.op= .call { callee:= .builtin .append,args:= #[s,x],argTypes:= #[31,31] }) (hty:o.type=31) (hs:a.eval s=v) (hx:a.eval x=u) (hr:(Builtin.append_ #[31,31] 31 #[v,u]).run Tryz.prog W= .ok v' w') (k:wpList Tryz.prog ops Q' rest (a.put o.dst v') w'):
  wpList Tryz.prog ops Q' (o :: rest) a W:=by
 refine wpList_plain hgd fun K hK=> ?_
 unfold Oper.wp execOp
 simp only [ho,hty,resolve,invoke,builtin,Sem.run_bind,Sem.run_pure,Result.andThen_ok,List.map_toArray,List.map_cons,List.map_nil,hs,hx,hr]
 exact hK _ _ k
section
variable (b tb:Nat) (vl:Value) (g:Tak) (w:World) (p:Value) (x:Int) (T:World→Prop) (h:TakAt w b tb vl g) (hT:Calls Tryz.prog 170 #[.pointer (some ⟨b,0,none⟩),p] w fun e w'=>e= .returned (.int .i64 x)∧T w') (hg:∀w',T w'→TakAt w' b tb vl g)
include h hT hg
set_option maxRecDepth 100000 in
theorem tStep9w (hpc:g.pc=9) (hx0:0≤x) (hlen:g.load.length≤8) (hll:g.load.length+1<g.many):
  Calls Tryz.prog 168 #[.pointer (some ⟨b,0,none⟩),p] w fun e w'=>e= .returned (.tuple #[.bool false, .int .i64 0])∧∃w1,T w1∧TakTo w1 b tb vl ({ g with load:=g.load ++ [x.toNat],answer:=0,pc:=9 }) w':=by
 have c10:=h.blk.cell 10
 simp only [Tak.cells,List.getElem?_cons_zero,List.getElem?_cons_succ,hpc] at c10
 obtain ⟨Al,cl,hvl, -, -⟩:=Row.slice h.load
 subst hvl
 generalize hnl:(nats g.load).length=nl at *
 have nl0:((nl+1:Nat):Int)<(g.many:Int):=by rw [←hnl,nats_len];omega
 have nl8:nl≤8:=by rw [←hnl,nats_len];omega
 have hxx:((x.toNat:Nat):Int)=x:=by omega
 have HXX:=Lib.hid (And.intro hxx hnl)
 clear hnl hll hxx
 have HT:=Lib.hid hT;clear hT
 have HG:=Lib.hid hg;clear hg h
 go_enter Tryz.func168,Tryz.ntmps168
 go_wp2_with fail
 refine wp_scope_once 2 rfl ?_
 go_wp2_with fail
 refine HT.out.mono ?_
 rintro e w1 ⟨rfl,ht⟩
 have hw1:=HG.out w1 ht
 have HW:=Lib.hid ht;clear ht
 have c10:=hw1.blk.cell 10
 simp only [Tak.cells,List.getElem?_cons_zero,List.getElem?_cons_succ,hpc] at c10
 have hs1:=TS.start hw1;clear hw1
 have c15:=hs1.tak.blk.cell 15
 simp only [Tak.cells,List.getElem?_cons_zero,List.getElem?_cons_succ] at c15
 have f15:=hs1.tak.blk.free 15
 have b6:Blk (w1.alloc (.cells #[.int .i64 x] 3)) b 163 _:=hs1.tak.blk.alloc _
 have c86:(w1.alloc (.cells #[.int .i64 x] 3)).cell? ⟨b,15,none⟩=some (.slice Al nl cl):=b6.cell 15
 have r5:RowI w1 (.slice Al nl cl) (nats g.load):=hs1.tak.load
 have hP:∃A7 c7 w7,(Builtin.append_ #[31,31] 31 #[.slice Al nl cl, .slice (some ⟨w1.heap.size,0,none⟩) 1 1]).run Tryz.prog (w1.alloc (.cells #[.int .i64 x] 3))= .ok (.slice A7 (nl+1) c7) w7∧
   Row w7 3 1 (.slice A7 (nl+1) c7) (nl+1) (ints (nats g.load) ++ [.int .i64 x])∧(w1.alloc (.cells #[.int .i64 x] 3)).grownBy w7 (Value.slice Al nl cl).ownBlock∧
   ((Value.slice A7 (nl+1) c7).ownBlock=(Value.slice Al nl cl).ownBlock∨∃b,(Value.slice A7 (nl+1) c7).ownBlock=some b∧(w1.alloc (.cells #[.int .i64 x] 3)).heap.size≤b):=by
  have hn:=HXX.out.2
  have:=push_run w1 Al cl (nats g.load) x.toNat (by omega) (by rw [hn];exact r5)
  rw [hn,HXX.out.1] at this
  exact this
 obtain ⟨A7,c7,w7,hr7,hR7,hg7,hat7⟩:=hP
 have b7:=b6.keep (Keep.grown hg7) (fun e=>Row.ne r5 hs1.tak.blk (by decide) e)
 have c87:w7.cell? ⟨b,15,none⟩=some (.slice Al nl cl):=b7.cell 15
 have f87:=b7.free 15
 have hfin:TS w1 b tb (.slice Al nl cl) (w7.setCell ⟨b,15,none⟩ (.slice A7 (nl+1) c7)) (.slice A7 (nl+1) c7) { g with load:=g.load ++ [x.toNat] }:=by
  have e1:ints (nats g.load) ++ [.int .i64 x]=ints (nats (g.load ++ [x.toNat])):=by simp [ints,nats,HXX.out.1]
  have e2:nl+1=(nats (g.load ++ [x.toNat])).length:=by rw [←HXX.out.2];simp [nats]
  refine hs1.setLoad (((Keep.refl (fun q=>(Value.slice Al nl cl).ownBlock=some q) w1).alloc _).trans' (Keep.grown hg7)) ?_ (fun q hq=> ?_)
  ·rw [e1,e2] at hR7
   rw [e2]
   exact hR7
  ·rcases hat7 with e|⟨k,e,hk⟩
   ·exact .inl (by rw [←e];exact hq)
   ·rw [e] at hq
    injection hq with hq
    subst hq
    refine .inr ?_
    have:(w1.alloc (.cells #[.int .i64 x] 3)).heap.size=w1.heap.size+1:=by simp
    omega
 have HFIN:=Lib.hid hfin
 clear hfin b6 b7 r5 hR7 hg7 hat7 hs1
 have HR7:=Lib.hid hr7;clear hr7
 go_wp2_with (at_builtin;refine push_list rfl _ _ rfl rfl rfl rfl HR7.out ?_)
 go_step3
 refine ⟨rfl, ?_⟩
 have hs3:=HFIN.out
 clear c86 c87 f87 c10 c15 f15
 generalize w7.setCell ⟨b,15,none⟩ (Value.slice A7 (nl+1) c7)=W3 at hs3 ⊢
 have c12:=hs3.tak.blk.cell 12
 have c13:=hs3.tak.blk.cell 13
 have c15:=hs3.tak.blk.cell 15
 simp only [Tak.cells,List.getElem?_cons_zero,List.getElem?_cons_succ] at c12 c13 c15
 have f13:=hs3.tak.blk.free 13
 have hs4:=hs3.put (g':= { g with load:=g.load ++ [x.toNat],answer:=0 }) 13 (.int .i64 0) rfl rfl rfl
 have HS4:=Lib.hid hs4;clear hs4 hs3
 go_wp2_with fail
 go_region
 go_wp2_with fail
 have hE:({ g with load:=g.load ++ [x.toNat],answer:=0,pc:=9 }:Tak)= { g with load:=g.load ++ [x.toNat],answer:=0 }:=by rw [←hpc]
 rw [Exit.noGoto_ret]
 go_ret2
 exact ⟨rfl,w1,HW.out,by rw [hE];exact HS4.out.drew.to⟩
set_option maxRecDepth 100000 in
theorem tStep9d (hpc:g.pc=9) (hx0:0≤x) (hlen:g.load.length≤8) (hll:g.many≤g.load.length+1):
  Calls Tryz.prog 168 #[.pointer (some ⟨b,0,none⟩),p] w fun e w'=>e= .returned (.tuple #[.bool false, .int .i64 0])∧∃w1,T w1∧TakTo w1 b tb vl ({ g with load:=g.load ++ [x.toNat],answer:=0,pc:=14 }) w':=by
 have c10:=h.blk.cell 10
 simp only [Tak.cells,List.getElem?_cons_zero,List.getElem?_cons_succ,hpc] at c10
 obtain ⟨Al,cl,hvl, -, -⟩:=Row.slice h.load
 subst hvl
 generalize hnl:(nats g.load).length=nl at *
 have nl0:(g.many:Int)≤((nl+1:Nat):Int):=by rw [←hnl,nats_len];omega
 have nl8:nl≤8:=by rw [←hnl,nats_len];omega
 have hxx:((x.toNat:Nat):Int)=x:=by omega
 have HXX:=Lib.hid (And.intro hxx hnl)
 clear hnl hll hxx
 have HT:=Lib.hid hT;clear hT
 have HG:=Lib.hid hg;clear hg h
 go_enter Tryz.func168,Tryz.ntmps168
 go_wp2_with fail
 refine wp_scope_two 2 0 rfl rfl ?_
 go_wp2_with fail
 refine HT.out.mono ?_
 rintro e w1 ⟨rfl,ht⟩
 have hw1:=HG.out w1 ht
 have HW:=Lib.hid ht;clear ht
 have c10:=hw1.blk.cell 10
 simp only [Tak.cells,List.getElem?_cons_zero,List.getElem?_cons_succ,hpc] at c10
 have hs1:=TS.start hw1;clear hw1
 have c15:=hs1.tak.blk.cell 15
 simp only [Tak.cells,List.getElem?_cons_zero,List.getElem?_cons_succ] at c15
 have f15:=hs1.tak.blk.free 15
 have b6:Blk (w1.alloc (.cells #[.int .i64 x] 3)) b 163 _:=hs1.tak.blk.alloc _
 have c86:(w1.alloc (.cells #[.int .i64 x] 3)).cell? ⟨b,15,none⟩=some (.slice Al nl cl):=b6.cell 15
 have r5:RowI w1 (.slice Al nl cl) (nats g.load):=hs1.tak.load
 have hP:∃A7 c7 w7,(Builtin.append_ #[31,31] 31 #[.slice Al nl cl, .slice (some ⟨w1.heap.size,0,none⟩) 1 1]).run Tryz.prog (w1.alloc (.cells #[.int .i64 x] 3))= .ok (.slice A7 (nl+1) c7) w7∧
   Row w7 3 1 (.slice A7 (nl+1) c7) (nl+1) (ints (nats g.load) ++ [.int .i64 x])∧(w1.alloc (.cells #[.int .i64 x] 3)).grownBy w7 (Value.slice Al nl cl).ownBlock∧
   ((Value.slice A7 (nl+1) c7).ownBlock=(Value.slice Al nl cl).ownBlock∨∃b,(Value.slice A7 (nl+1) c7).ownBlock=some b∧(w1.alloc (.cells #[.int .i64 x] 3)).heap.size≤b):=by
  have hn:=HXX.out.2
  have:=push_run w1 Al cl (nats g.load) x.toNat (by omega) (by rw [hn];exact r5)
  rw [hn,HXX.out.1] at this
  exact this
 obtain ⟨A7,c7,w7,hr7,hR7,hg7,hat7⟩:=hP
 have b7:=b6.keep (Keep.grown hg7) (fun e=>Row.ne r5 hs1.tak.blk (by decide) e)
 have c87:w7.cell? ⟨b,15,none⟩=some (.slice Al nl cl):=b7.cell 15
 have f87:=b7.free 15
 have hfin:TS w1 b tb (.slice Al nl cl) (w7.setCell ⟨b,15,none⟩ (.slice A7 (nl+1) c7)) (.slice A7 (nl+1) c7) { g with load:=g.load ++ [x.toNat] }:=by
  have e1:ints (nats g.load) ++ [.int .i64 x]=ints (nats (g.load ++ [x.toNat])):=by simp [ints,nats,HXX.out.1]
  have e2:nl+1=(nats (g.load ++ [x.toNat])).length:=by rw [←HXX.out.2];simp [nats]
  refine hs1.setLoad (((Keep.refl (fun q=>(Value.slice Al nl cl).ownBlock=some q) w1).alloc _).trans' (Keep.grown hg7)) ?_ (fun q hq=> ?_)
  ·rw [e1,e2] at hR7
   rw [e2]
   exact hR7
  ·rcases hat7 with e|⟨k,e,hk⟩
   ·exact .inl (by rw [←e];exact hq)
   ·rw [e] at hq
    injection hq with hq
    subst hq
    refine .inr ?_
    have:(w1.alloc (.cells #[.int .i64 x] 3)).heap.size=w1.heap.size+1:=by simp
    omega
 have HFIN:=Lib.hid hfin
 clear hfin b6 b7 r5 hR7 hg7 hat7 hs1
 have HR7:=Lib.hid hr7;clear hr7
 go_wp2_with (at_builtin;refine push_list rfl _ _ rfl rfl rfl rfl HR7.out ?_)
 go_step3
 refine ⟨rfl, ?_⟩
 have hs3:=HFIN.out
 clear c86 c87 f87 c10 c15 f15
 generalize w7.setCell ⟨b,15,none⟩ (Value.slice A7 (nl+1) c7)=W3 at hs3 ⊢
 have c12:=hs3.tak.blk.cell 12
 have c13:=hs3.tak.blk.cell 13
 have c15:=hs3.tak.blk.cell 15
 simp only [Tak.cells,List.getElem?_cons_zero,List.getElem?_cons_succ] at c12 c13 c15
 have f13:=hs3.tak.blk.free 13
 have hs4:=hs3.put (g':= { g with load:=g.load ++ [x.toNat],answer:=0 }) 13 (.int .i64 0) rfl rfl rfl
 have HS4:=Lib.hid hs4;clear hs4 hs3
 go_wp2_with fail
 go_region
 go_wp2_with fail
 go_step3
 refine ⟨rfl, ?_⟩
 have hs5:=HS4.out.drew
 clear c12 c13 c15 f13
 have c10:=hs5.tak.blk.cell 10
 simp only [Tak.cells,List.getElem?_cons_zero,List.getElem?_cons_succ] at c10
 have f10:=hs5.tak.blk.free 10
 have HF:=Lib.hid (hs5.put (g':= { g with load:=g.load ++ [x.toNat],answer:=0,pc:=14 }) 10 (.int .i64 14) rfl rfl rfl);clear hs5
 go_wp2_with fail
 rw [Exit.noGoto_ret]
 go_ret2
 exact ⟨rfl,w1,HW.out,HF.out.to⟩
end
section
variable (S:SocL) (n W most:Nat) (vs:Nat→Value) (s:Sc) (p c:Nat) (hc:c<n) (hu:upAt s.g c) (b tb:Nat) (vl:Value) (g:Tak) (ok:g.Ok n W) (w:World)
include hc hu ok
set_option maxRecDepth 100000 in
theorem tTouchF (hpc:g.pc=4∨g.pc=11∨g.pc=13) (h:TakAt w b tb vl g) (hp:PortAt w S p c) (hs:SocAt w S n W most vs s.m s.q s.g):
  Calls Tryz.prog 170 #[.pointer (some ⟨b,0,none⟩),port p] w fun e w'=>e= .returned (.int .i64 (s.tch most c .fence).2)∧TchTo w S n W most vs c s .fence w':=by
 have c10:=h.blk.cell 10
 simp only [Tak.cells,List.getElem?_cons_zero,List.getElem?_cons_succ] at c10
 have hL:=pFence_any S n W most vs s.m s.q s.g p c hc hu w hp hs
 show Calls _ _ _ _ fun e w'=>e= .returned (.int .i64 0)∧SocTo w S n W most vs (applyAll s.m (s.q c)) (upd s.q c []) s.g w'
 have hn:=ahead_fence p
 have hm:=meth_fence p
 have HL:=Lib.hid hL;clear hL h hp hs
 unfold port
 rcases hpc with e|e|e <;>
 ·rw [e] at c10
  clear e
  go_enter Tryz.func170,Tryz.ntmps170
  go_wp2_with fail
  refine HL.out.mono ?_
  rintro e w' ⟨rfl,hT⟩
  have HT:=Lib.hid hT;clear hT
  go_wp2_with fail
  go_ret
  exact ⟨rfl,HT.out⟩
theorem tTouch_any (h1:1≤g.pc) (h:TakAt w b tb vl g) (hd:∀k,TakF b tb vl k→ ¬SocF S n vs k) (hA:Ahead w) (hp:PortAt w S p c) (hs:SocAt w S n W most vs s.m s.q s.g):
  Calls Tryz.prog 170 #[.pointer (some ⟨b,0,none⟩),port p] w fun e w'=>e= .returned (.int .i64 (s.tch most c g.tch).2)∧TchTo w S n W most vs c s g.tch w':=by
 have hpc:=ok.pc
 have:g.pc=1∨g.pc=2∨g.pc=3∨g.pc=4∨g.pc=5∨g.pc=6∨g.pc=7∨g.pc=8∨g.pc=9∨g.pc=10∨g.pc=11∨g.pc=12∨g.pc=13∨g.pc=14:=by omega
 rcases this with e|e|e|e|e|e|e|e|e|e|e|e|e|e
 ·rw [show g.tch= .ep g.peer by simp [Tak.tch,e]];exact tTouch1 S n W most vs s p c hc hu b tb vl g ok w e h hd hA hp hs
 ·rw [show g.tch= .st (g.base+3) 0 by simp [Tak.tch,e]];exact tTouch2 S n W most vs s p c hc hu b tb vl g ok w e h hd hA hp hs
 ·rw [show g.tch= .st (g.base+1) g.ep.toNat by simp [Tak.tch,e]];exact tTouch3 S n W most vs s p c hc hu b tb vl g ok w e h hd hA hp hs
 ·rw [show g.tch= .fence by simp [Tak.tch,e]];exact tTouchF S n W most vs s p c hc hu b tb vl g ok w (.inl e) h hp hs
 ·rw [show g.tch= .ld g.base by simp [Tak.tch,e]];exact tTouch5 S n W most vs s p c hc hu b tb vl g ok w e h hd hA hp hs
 ·rw [show g.tch= .ld (g.base+2) by simp [Tak.tch,e]];exact tTouch6 S n W most vs s p c hc hu b tb vl g ok w e h hd hA hp hs
 ·rw [show g.tch= .ld (g.base+4+0*g.ring+1*(g.head%g.ring)+0) by unfold Tak.tch;rw [e];rfl];exact tTouch7 S n W most vs s p c hc hu b tb vl g ok w e h hd hA hp hs
 ·rw [show g.tch= .ld (g.base+4+2*g.ring+1*g.d+0) by unfold Tak.tch;rw [e];rfl];exact tTouch8 S n W most vs s p c hc hu b tb vl g ok w e h hd hA hp hs
 ·rw [show g.tch= .ld (g.base+4+3*g.ring+8*g.d+g.load.length) by unfold Tak.tch;rw [e];rfl];exact tTouch9 S n W most vs s p c hc hu b tb vl g ok w e h hd hA hp hs
 ·rw [show g.tch= .st (g.base+4+1*g.ring+1*(g.used%g.ring)+0) g.d by unfold Tak.tch;rw [e];rfl];exact tTouch10 S n W most vs s p c hc hu b tb vl g ok w e h hd hA hp hs
 ·rw [show g.tch= .fence by simp [Tak.tch,e]];exact tTouchF S n W most vs s p c hc hu b tb vl g ok w (.inr (.inl e)) h hp hs
 ·rw [show g.tch= .st (g.base+3) ((g.used+1)%65536) by simp [Tak.tch,e]];exact tTouch12 S n W most vs s p c hc hu b tb vl g ok w e h hd hA hp hs
 ·rw [show g.tch= .fence by simp [Tak.tch,e]];exact tTouchF S n W most vs s p c hc hu b tb vl g ok w (.inr (.inr e)) h hp hs
 ·rw [show g.tch= .ep g.peer by simp [Tak.tch,e]];exact tTouch14 S n W most vs s p c hc hu b tb vl g ok w e h hd hA hp hs
set_option maxRecDepth 100000 in
theorem tStep_any (h1:g.pc≠0) (hrng:0≤(s.tch most c g.tch).2) (h:TakAt w b tb vl g) (hd:∀k,TakF b tb vl k→ ¬SocAll S n vs k) (hA:Ahead w) (hp:PortAt w S p c) (hs:SocAt w S n W most vs s.m s.q s.g):
  Calls Tryz.prog 168 #[.pointer (some ⟨b,0,none⟩),port p] w fun e w'=>e= .returned (.tuple #[.bool (g.go (s.tch most c g.tch).2).2.1, .int .i64 (g.go (s.tch most c g.tch).2).2.2])∧∃w1,TchTo w S n W most vs c s g.tch w1∧TakTo w1 b tb vl (g.go (s.tch most c g.tch).2).1 w':=by
 have hd':∀k,TakF b tb vl k→ ¬SocF S n vs k:=fun k hk e=>hd k hk (.inr (.inr (.inr (.inr (.inr e)))))
 have hT:=tTouch_any S n W most vs s p c hc hu b tb vl g ok w (by omega) h hd' hA hp hs
 have hg:∀w',TchTo w S n W most vs c s g.tch w'→TakAt w' b tb vl g:=fun w' hT=>h.soc hd' hT
 generalize (s.tch most c g.tch).2=x at *
 generalize hTT:TchTo w S n W most vs c s g.tch=T at *
 clear hTT
 have hpc:=ok.pc
 have hcase:g.pc=1∨g.pc=2∨g.pc=3∨g.pc=4∨g.pc=5∨g.pc=6∨g.pc=7∨g.pc=8∨g.pc=9∨g.pc=10∨g.pc=11∨g.pc=12∨g.pc=13∨g.pc=14:=by omega
 rcases hcase with e|e|e|e|e|e|e|e|e|e|e|e|e|e
 ·rw [show g.go x=(g.asked x,false,0) by simp [Tak.go,e]];exact tStep1 b tb vl g w _ x T h hT hg e
 ·rw [show g.go x=({ g with pc:=2+1 },false,0) by simp [Tak.go,e]];exact tStep2 b tb vl g w _ x T h hT hg e
 ·rw [show g.go x=({ g with pc:=3+1 },false,0) by simp [Tak.go,e]];exact tStep3 b tb vl g w _ x T h hT hg e
 ·rw [show g.go x=(g.first,true,8) by simp [Tak.go,e]];exact tStep4 b tb vl g w _ x T h hT hg e ok.tab
 ·by_cases hx:x=g.ep
  ·rw [show g.go x=({ g with linked:=true,pc:=6 },false,0) by simp [Tak.go,e,hx]];exact tStep5y b tb vl g w _ x T h hT hg e hx
  ·rw [show g.go x=({ g with pc:=0 },true,9) by simp [Tak.go,e,hx]];exact tStep5n b tb vl g w _ x T h hT hg e hx
 ·by_cases hx:g.waiting x=0
  ·rw [show g.go x=({ g with answer:=0,pc:=7 },false,0) by simp [Tak.go,e,hx]];exact tStep6y b tb vl g w _ x T h hT hg e ok.tab ok.r1 ok.r64 hx
  ·rw [show g.go x=({ g with answer:=g.waiting x,pc:=14 },false,0) by simp [Tak.go,e,hx]];exact tStep6n b tb vl g w _ x T h hT hg e ok.tab ok.r1 ok.r64 hx
 ·by_cases hr:(g.ring:Int)≤x
  ·rw [show g.go x=({ g with answer:=10,pc:=14 },false,0) by simp [Tak.go,e,hr,Tak.corrupt]];exact tStep7a b tb vl g w _ x T h hT hg e hr
  ·by_cases hi:0≤idx g.held x
   ·rw [show g.go x=({ g with answer:=10,pc:=14 },false,0) by simp [Tak.go,e,hi,Tak.corrupt]];exact tStep7b b tb vl g w _ x T h hT hg e ok.tab (by omega) hi
   ·rw [show g.go x=({ g with d:=x.toNat,pc:=8 },false,0) by simp only [Tak.go,e];simp [hr,hi]];exact tStep7y b tb vl g w _ x T h hT hg e ok.tab (by omega) (by omega) hrng
 ·by_cases hx:8<x
  ·rw [show g.go x=({ g with answer:=10,pc:=14 },false,0) by simp [Tak.go,e,hx,Tak.corrupt]];exact tStep8c b tb vl g w _ x T h hT hg e hx
  ·by_cases hl:g.load.length<x.toNat
   ·rw [show g.go x=({ g with many:=x.toNat,answer:=0,pc:=9 },false,0) by simp [Tak.go,e,hx,Tak.words,hl]];exact tStep8w b tb vl g w _ x T h hT hg e (by omega) hrng hl
   ·rw [show g.go x=({ g with many:=x.toNat,answer:=0,pc:=14 },false,0) by simp [Tak.go,e,hx,Tak.words,hl]];exact tStep8d b tb vl g w _ x T h hT hg e (by omega) hrng (by omega)
 ·by_cases hl:g.load.length+1<g.many
  ·rw [show g.go x=({ g with load:=g.load ++ [x.toNat],answer:=0,pc:=9 },false,0) by simp [Tak.go,e,Tak.words,hl]];exact tStep9w b tb vl g w _ x T h hT hg e hrng ok.len hl
  ·rw [show g.go x=({ g with load:=g.load ++ [x.toNat],answer:=0,pc:=14 },false,0) by simp [Tak.go,e,Tak.words,hl]];exact tStep9d b tb vl g w _ x T h hT hg e hrng ok.len (by omega)
 ·rw [show g.go x=({ g with pc:=10+1 },false,0) by simp [Tak.go,e]];exact tStep10 b tb vl g w _ x T h hT hg e
 ·rw [show g.go x=({ g with pc:=11+1 },false,0) by simp [Tak.go,e]];exact tStep11 b tb vl g w _ x T h hT hg e
 ·rw [show g.go x=({ g with pc:=12+1 },false,0) by simp [Tak.go,e]];exact tStep12 b tb vl g w _ x T h hT hg e
 ·rw [show g.go x=({ g with answer:=0,pc:=14 },false,0) by simp [Tak.go,e]];exact tStep13 b tb vl g w _ x T h hT hg e
 ·rw [show g.go x=((g.over x).1,true,(g.over x).2) by simp [Tak.go,e]];exact tStep14 b tb vl g w _ x T h hT hg e ok.tab
theorem tDo_any (h1:g.pc≠0) (hrng:0≤(s.tch most c g.tch).2) (h:TakAt w b tb vl g) (hd:∀k,TakF b tb vl k→ ¬SocAll S n vs k) (hA:Ahead w) (hp:PortAt w S p c) (hs:SocAt w S n W most vs s.m s.q s.g):
  Calls Tryz.prog 168 #[.pointer (some ⟨b,0,none⟩),port p] w fun e w'=>e= .returned (.tuple #[.bool (g.go (s.tch most c g.tch).2).2.1, .int .i64 (g.go (s.tch most c g.tch).2).2.2])∧
   ∃vs' vl',SocAt w' S n W most vs' (s.tch most c g.tch).1.m (s.tch most c g.tch).1.q (s.tch most c g.tch).1.g∧TakAt w' b tb vl' (g.go (s.tch most c g.tch).2).1∧Moved w w' (SocAll S n vs) (SocAll S n vs') (TakF b tb vl) (TakF b tb vl'):=by
 refine (tStep_any S n W most vs s p c hc hu b tb vl g ok w h1 hrng h hd hA hp hs).mono ?_
 rintro e w' ⟨he,w1,hT,vl',hG⟩
 obtain ⟨vs',a1,a2,a3⟩:=hT.all
 have hown:∀k,TakF b tb vl' k→TakF b tb vl k∨w1.heap.size≤k:=by
  rintro k (e|e|e)
  ·exact .inl (.inl e)
  ·exact .inl (.inr (.inl e))
  ·exact (hG.own k e).imp (fun e=> .inr (.inr e)) id
 have hgl:∀k,TakF b tb vl' k→ ¬SocAll S n vs' k:=by
  intro k hk e
  have hlt:=a1.lt k e
  rcases hown k hk with h2|h2
  ·rcases a3 k e with h3|h3
   ·exact hd k h2 h3
   ·have:=h.lt k h2;omega
  ·omega
 have hg0:∀k,SocAll S n vs' k→ ¬TakF b tb vl k:=by
  intro k hk e
  rcases a3 k hk with h3|h3
  ·exact hd k e h3
  ·have:=h.lt k e;omega
 refine ⟨he,vs',vl',a1.keepAll hG.keep hg0,hG.tak,⟨(a2.mono (fun k _ e=> .inl e)).trans hG.keep (fun k _ e=> .inr e),a3,fun k hk=> ?_,fun k hk e=>hgl k e hk⟩⟩
 rcases hown k hk with h2|h2
 ·exact .inl h2
 ·exact .inr (Nat.le_trans a2.size h2)
end
end Go.Proofs.YtaaffebnajjfhaaGreatDoor.T
