/- Texts of this proof, merged: Fltr, Fltr2. -/
import Derived.Test.YtaaffebnajjfhaaGreatDoorH40
namespace Go.Proofs.YtaaffebnajjfhaaGreatDoor.T
set_option linter.unusedVariables false
set_option linter.unusedSimpArgs false
set_option linter.unusedSectionVars false
open Go.RowKit
structure DRow (w:World) (v:Value) (d:List Ent) (dl:Nat→Value):Prop where
 row:d= []∧(∃A c,v= .slice A 0 c)∨∃g off c,v= .slice (some ⟨g,off,none⟩) d.length c∧g<w.heap.size∧d.length≤c∧∀j r,j<d.length→r<8→w.cell? ⟨g,off+j*8+r,none⟩=(entCells (d.getD j Ent.none_) (dl j))[r]?
 load:∀j,j<d.length→RowI w (dl j) (d.getD j Ent.none_).load
namespace DRow
variable {w w':World} {v:Value} {d:List Ent} {dl:Nat→Value}
theorem fresh (h:DRow w v d dl) (hb:Below w.heap.size w w'):DRow w' v d dl:=by
 refine ⟨?_,fun j hj=>Row.below (h.load j hj) hb⟩
 rcases h.row with h|⟨g,off,c,hv,hg,hc,hx⟩
 ·exact .inl h
 ·exact .inr ⟨g,off,c,hv,Nat.lt_of_lt_of_le hg hb.size,hc,fun j r hj hr=>(hb.cell (p:=⟨g,off+j*8+r,none⟩) hg).trans (hx j r hj hr)⟩
theorem at_ (h:DRow w v d dl) {j:Nat} (hj:j<d.length):∃g off c,v= .slice (some ⟨g,off,none⟩) d.length c∧d.length≤c∧∀r,r<8→w.cell? ⟨g,off+j*8+r,none⟩=(entCells (d.getD j Ent.none_) (dl j))[r]? := by
 rcases h.row with ⟨rfl,_⟩|⟨g,off,c,hv,hg,hc,hx⟩
 ·simp at hj
 ·exact ⟨g,off,c,hv,hc,fun r hr=>hx j r hj hr⟩
theorem slice (h:DRow w v d dl):∃A c,v= .slice A d.length c:=by
 rcases h.row with ⟨rfl,A,c,hv⟩|⟨g,off,c,hv,_⟩
 ·exact ⟨A,c,hv⟩
 ·exact ⟨_,c,hv⟩
theorem ofDia {u:World} (h:DiaAt w u v d dl):DRow u v d dl:=by
 refine ⟨?_,h.loads⟩
 by_cases h0:0<d.length
 ·obtain ⟨g,off,c,hv,hc1,hc2,hcell⟩:=Row.cells h.row h0
  refine .inr ⟨g,off,c,hv, ?_,hc1,fun j r hj hr=> ?_⟩
  ·obtain ⟨cur,hcur⟩:=Row.typed h.row g (by rw [hv];rfl)
   exact hcur.lt
  ·have:=(hcell (j*8+r) (by omega)).1
   rw [Nat.add_assoc,this,diaCells_get _ _ hj hr]
 ·obtain ⟨A,c,hv, -, -⟩:=Row.slice h.row
  have:d.length=0:=by omega
  exact .inl ⟨List.eq_nil_of_length_eq_zero this,A,c,by rw [hv,this]⟩
end DRow
structure EntsAt (w u:World) (v:Value) (d:List Ent) (dl:Nat→Value):Prop where
 b:Below w.heap.size w u
 row:RowZ u 82 8 v d.length (diaCells dl d)
 loads:∀j,j<d.length→RowI u (dl j) (d.getD j Ent.none_).load
 own:∀k,v.ownBlock=some k→w.heap.size≤k
theorem EntsAt.fresh {w u u':World} {v:Value} {d:List Ent} {dl:Nat→Value} (h:EntsAt w u v d dl) (hb:Below u.heap.size u u'):EntsAt w u' v d dl:=
 ⟨h.b.trans (hb.mono h.b.size),h.row.move (fun k q=>hb.block k (h.row.lt k q)),fun j hj=>Row.below (h.loads j hj) hb,h.own⟩
theorem EntsAt.nil (w:World) (dl:Nat→Value):EntsAt w w nilS [] dl:=⟨Below.refl _ _,⟨rfl, .inl ⟨rfl,rfl⟩⟩,fun j hj=>by simp at hj,fun k q=>by simp [nilS,Value.ownBlock] at q⟩
theorem EntsAt.read {w u:World} {v:Value} {d:List Ent} {dl:Nat→Value} (h:EntsAt w u v d dl):DRow u v d dl:=by
 refine ⟨?_,h.loads⟩
 by_cases h0:0<d.length
 ·obtain ⟨g,c,hv,hc,⟨cur,hcur⟩,hcell⟩:=h.row.cells h0
  refine .inr ⟨g,0,c,hv,hcur.lt,hc,fun j r hj hr=> ?_⟩
  have:=(hcell (j*8+r) (by omega)).1
  rw [Nat.add_assoc,Nat.zero_add,this,diaCells_get _ _ hj hr]
 ·obtain ⟨A,c,hv⟩:=h.row.slice
  have:d.length=0:=by omega
  exact .inl ⟨List.eq_nil_of_length_eq_zero this,A,c,by rw [hv,this]⟩
theorem EntsAt.push {w x:World} {v:Value} {d:List Ent} {dl:Nat→Value} {e:Ent} {l:Value} (h:EntsAt w x v d dl) (hn:d.length≤100000) (hl:RowI x l e.load) (ho:l.oneCell'=true):
  ∃A7 q7 w7,(Builtin.append_ #[35,35] 35 #[v, .slice (some ⟨x.heap.size,0,none⟩) 1 1]).run Tryz.prog (x.alloc (.cells (entCells e l).toArray 82))= .ok (.slice A7 (d.length+1) q7) w7∧EntsAt w w7 (.slice A7 (d.length+1) q7) (d ++ [e]) (upd dl d.length l):=by
 obtain ⟨v7,w7,h1,h2,h3,h4⟩:=ent_push x v d.length _ hn h.row e l ho
 obtain ⟨A7,q7,hv⟩:=h2.slice
 subst hv
 have hb:Below x.heap.size x (x.alloc (.cells (entCells e l).toArray 82)):=(Below.refl _ _).alloc (Nat.le_refl _) _
 have hk:Keep (fun k=>v.ownBlock=some k) x w7:=(Keep.ofFresh hb (B:=0)).trans' (Keep.grown h3)
 have hne:∀u xs,RowI x u xs→∀k,u.ownBlock=some k→ ¬v.ownBlock=some k:=fun u xs hu k q e=>by
  obtain ⟨cur,hcur⟩:=h.row.typed k e
  exact Row.ne hu hcur (by decide) q
 refine ⟨A7,q7,w7,h1,h.b.trans (Keep.toBelow (hk.mono fun k _ q=>h.own k q) h.b.size), ?_,fun j hj=> ?_,fun k q=> ?_⟩
 ·rw [List.length_append, ←diaCells_push];exact h2
 ·rw [List.length_append] at hj
  have hj:j<d.length+1:=by simpa using hj
  by_cases e1:j=d.length
  ·subst e1
   rw [upd_same,getD_last]
   exact Row.keep hl hk (hne _ _ hl)
  ·rw [upd_other _ _ _ _ e1,getD_push _ _ _ _ (by omega)]
   exact Row.keep (h.loads j (by omega)) hk (hne _ _ (h.loads j (by omega)))
 ·rcases h4 with e1|e1
  ·rw [e1] at q;exact h.own k q
  ·rw [e1] at q
   injection q with q
   have:=hb.size
   have:=h.b.size
   omega
theorem filter_take (p:Ent→Bool) (d:List Ent) (k:Nat) (hk:k<d.length):(d.take (k+1)).filter p=if p (d.getD k Ent.none_)=true then (d.take k).filter p ++ [d.getD k Ent.none_] else (d.take k).filter p:=by
 rw [List.take_succ_eq_append_getElem hk,List.filter_append,List.getD_eq_getElem?_getD,List.getElem?_eq_getElem hk,Option.getD_some]
 by_cases h:p d[k]=true
 ·rw [if_pos h];simp [h]
 ·rw [if_neg h];simp [h]
set_option maxHeartbeats 1000000 in
set_option maxRecDepth 100000 in
theorem some_any (p:Ent→Bool) (g0:Nat) (caps:Array Value) (hen:Enters g0) (v:Value) (d:List Ent) (dl:Nat→Value) (w:World) (h:DRow w v d dl) (hd:d.length≤50000) (hs:∀j,j<d.length→(d.getD j Ent.none_).load.length≤1000)
  (hcl:∀(u:World) (e:Ent) (l:Value),Below w.heap.size w u→Calls Tryz.prog g0 (#[.agg #[.int .i64 (e.core:Int), .int .i64 (e.peer:Int), .int .i64 (e.kind:Int), .int .i64 (e.bgn:Int), .int .i64 (e.fin:Int), .int .i64 e.err,l, .int .i64 e.handle]]++caps) u fun r u'=>r= .returned (.bool (p e))∧Below u.heap.size u u'):
  Calls Tryz.prog 72 #[v, .func (.func g0) #[] caps] w fun r w'=>∃v' dl',r= .returned v'∧EntsAt w w' v' (d.filter p) dl':=by
 obtain ⟨A,cp,hv⟩:=h.slice
 subst hv
 have HD:=Lib.hid (And.intro h hs)
 have HCL:=Lib.hid hcl
 clear h hs hcl
 go_enter Tryz.func72,Tryz.ntmps72
 go_wp2_with fail
 go_loopw [5,10] (fun ov jv u=>∃k:Nat,k≤d.length∧jv= .int .i64 k∧∃dl',EntsAt w u ov ((d.take k).filter p) dl')
  (fun _ jv _=>d.length-(intOf jv).toNat)
 case atStart=>exact ⟨0,by omega,rfl,dl,EntsAt.nil w dl⟩
 case round=>
  obtain ⟨k,hk,rfl,dl',hE⟩:=hrel
  obtain ⟨Ao,qo,hov⟩:=hE.row.slice
  subst hov
  by_cases hin:k<d.length
  ·obtain ⟨g,off,c,hv,hc,hx⟩:=(HD.out.1.fresh hE.b).at_ hin
   injection hv with hA hzz hq
   clear hzz
   subst hA hq
   have hld:=(HD.out.1.fresh hE.b).load k hin
   have hs1:=HD.out.2 k hin
   have hft:=filter_take p d k hin
   have hlen:((d.take k).filter p).length≤50000:=by
    have:=List.length_filter_le p (d.take k)
    rw [List.length_take] at this
    omega
   obtain ⟨Ai,qi,hdi, -, -⟩:=Row.slice hld
   obtain ⟨en,hee⟩:∃en,en=d.getD k Ent.none_:=⟨_,rfl⟩
   rw [←hee] at hx hdi hld hs1 hft
   rw [hdi] at hld
   have x0:=hx 0 (by omega)
   have x1:=hx 1 (by omega)
   have x2:=hx 2 (by omega)
   have x3:=hx 3 (by omega)
   have x4:=hx 4 (by omega)
   have x5:=hx 5 (by omega)
   have x6:=hx 6 (by omega)
   have x7:=hx 7 (by omega)
   rw [hdi] at x0 x1 x2 x3 x4 x5 x6 x7
   simp only [entCells,List.getElem?_cons_zero,List.getElem?_cons_succ,Nat.add_zero] at x0 x1 x2 x3 x4 x5 x6 x7
   have hi0:(0:Int)≤(k:Int):=by omega
   have hi1:(k:Int)<(d.length:Int):=by omega
   obtain ⟨wB,hwB⟩:∃wB,wB=wr.alloc (.cells #[.int .i64 (en.core:Int), .int .i64 (en.peer:Int), .int .i64 (en.kind:Int), .int .i64 (en.bgn:Int), .int .i64 (en.fin:Int), .int .i64 en.err, .slice Ai en.load.length qi, .int .i64 en.handle] 82):=⟨_,rfl⟩
   have hba:Below wr.heap.size wr wB:=by rw [hwB];exact (Below.refl _ _).alloc (Nat.le_refl _) _
   have hkB:Blk wB wr.heap.size 82 [.int .i64 (en.core:Int), .int .i64 (en.peer:Int), .int .i64 (en.kind:Int), .int .i64 (en.bgn:Int), .int .i64 (en.fin:Int), .int .i64 en.err, .slice Ai en.load.length qi, .int .i64 en.handle]:=by rw [hwB];exact Blk.new wr 82 _
   have y0:=hkB.cell 0
   have y1:=hkB.cell 1
   have y2:=hkB.cell 2
   have y3:=hkB.cell 3
   have y4:=hkB.cell 4
   have y5:=hkB.cell 5
   have y6:=hkB.cell 6
   have y7:=hkB.cell 7
   simp only [List.getElem?_cons_zero,List.getElem?_cons_succ] at y0 y1 y2 y3 y4 y5 y6 y7
   have hEB:=hE.fresh hba
   have hldB:RowI wB (.slice Ai en.load.length qi) en.load:=Row.below hld hba
   have hC:=HCL.out wB en (.slice Ai en.load.length qi) hEB.b
   have HC:=Lib.hid hC
   have HWB:=Lib.hid hwB
   have HEB:=Lib.hid (And.intro hEB (And.intro hldB (And.intro hkB (And.intro hE.b.size (And.intro hs1 (And.intro hft (fun j q=>hE.row.lt j q)))))))
   clear hC hwB hba hkB hEB hldB hx hE hdi hee hld hs1 hft
   go_upto_region 5 with fail
   rw [←HWB.out]
   clear x0 x1 x2 x3 x4 x5 x6 x7
   go_wp2_with fail
   rw [hen,Oper.upon_enter]
   refine HC.out.mono ?_
   rintro r w2 ⟨rfl,hb2⟩
   have hE2:=HEB.out.1.fresh hb2
   have hk2:=HEB.out.2.2.1.keep (Keep.ofFresh hb2 (B:=0) (F:=fun _=>False)) (fun q=>q)
   have hld2:RowI w2 (.slice Ai en.load.length qi) en.load:=Row.below HEB.out.2.1 hb2
   clear y0 y1 y2 y3 y4 y5 y6 y7
   by_cases hp:p en=true
   ·rw [hp]
    have HP:=Lib.hid hp
    have y6:=hk2.cell 6
    simp only [List.getElem?_cons_zero,List.getElem?_cons_succ] at y6
    have hCl:=clone_any (.slice Ai en.load.length qi) en.load HEB.out.2.2.2.2.1 w2 (RowI.read hld2)
    have HCC:=Lib.hid hCl
    have H2:=Lib.hid (And.intro hE2 hk2)
    clear hp hCl hE2 hk2 hld2 hb2
    go_wp2_with fail
    refine HCC.out.mono ?_
    rintro r w3 ⟨v3,rfl,hv3,ho3,hb3⟩
    obtain ⟨A3,q3,hv3e, -, -⟩:=Row.slice hv3
    subst hv3e
    have hk3:=H2.out.2.keep (Keep.ofFresh hb3 (B:=0) (F:=fun _=>False)) (fun q=>q)
    have f6:=hk3.free 6
    have y6:=hk3.cell 6
    have hE3:=H2.out.1.fresh hb3
    obtain ⟨w4,hw4⟩:∃w4,w4=w3.setCell ⟨wr.heap.size,6,none⟩ (.slice A3 en.load.length q3):=⟨_,rfl⟩
    have hk4:Blk w4 wr.heap.size 82 [.int .i64 (en.core:Int), .int .i64 (en.peer:Int), .int .i64 (en.kind:Int), .int .i64 (en.bgn:Int), .int .i64 (en.fin:Int), .int .i64 en.err, .slice A3 en.load.length q3, .int .i64 en.handle]:=by rw [hw4];exact hk3.set 6 _
    have hkk:Keep (fun k=>k=wr.heap.size) w3 w4:=by rw [hw4];exact Keep.one
    have hlr:∀u xs,RowI w3 u xs→RowI w4 u xs:=fun u xs hu=>Row.keep hu hkk (fun k q e=>Row.ne hu hk3 (by decide) (by rw [q,e]))
    have hE4:EntsAt w w4 (.slice Ao ((d.take k).filter p).length qo) ((d.take k).filter p) dl':=by
     refine ⟨hE3.b.trans (Keep.toBelow (hkk.mono fun k _ q=>by have:=HEB.out.2.2.2.1;omega) hE3.b.size),hE3.row.keep hkk (fun j q e=> ?_),fun j hj=>hlr _ _ (hE3.loads j hj),hE3.own⟩
     have:=HEB.out.2.2.2.2.2.2 j q
     omega
    have hz:=hk4.cell
    have z0:=hz 0
    have z1:=hz 1
    have z2:=hz 2
    have z3:=hz 3
    have z4:=hz 4
    have z5:=hz 5
    have z6:=hz 6
    have z7:=hz 7
    simp only [List.getElem?_cons_zero,List.getElem?_cons_succ] at z0 z1 z2 z3 z4 z5 z6 z7 y6
    obtain ⟨A7,q7,w7,hr7,hE7⟩:=hE4.push (by omega) (hlr _ _ hv3) rfl
    have HR7:=Lib.hid hr7
    have HE7:=Lib.hid hE7
    have HW4:=Lib.hid hw4
    clear hr7 hE7 hw4 hk4 hkk hlr hE4 hE3 hk3 hv3 ho3 hb3 hz
    go_upto_region 7 with fail
    rw [←HW4.out]
    clear y6 f6
    go_wp2_with (at_builtin;refine app_run_list rfl _ _ 35 35 rfl rfl rfl rfl HR7.out ?_)
    go_roundw
    case rel=>
     refine ⟨k+1,by omega,by go_num,upd dl' ((d.take k).filter p).length (.slice A3 en.load.length q3), ?_⟩
     have:=HEB.out.2.2.2.2.2.1
     rw [if_pos HP.out] at this
     rw [this]
     exact HE7.out
    case measure=>simp [intOf];omega
   ·have hpf:p en=false:=by simpa using hp
    rw [hpf]
    have H2:=Lib.hid hE2
    have HP:=Lib.hid hp
    clear hE2 hk2 hld2 hb2 hp hpf
    go_wp2_with fail
    go_roundw
    case rel=>
     refine ⟨k+1,by omega,by go_num,dl', ?_⟩
     have:=HEB.out.2.2.2.2.2.1
     rw [if_neg HP.out] at this
     rw [this]
     exact H2.out
    case measure=>simp [intOf];omega
  ·have hk2:k=d.length:=by omega
   subst hk2
   rw [List.take_length] at hE
   have HE:=Lib.hid hE
   clear hE
   go_wp2_with fail
   go_ret
   have hE:=HE.out
   refine ⟨_,dl',rfl, ?_⟩
   have e:((d.take d.length).filter p)=d.filter p:=by rw [List.take_length]
   rw [e]
   exact hE
def isSent (f t:Nat) (e:Ent):Bool:=decide (e.kind=1)&&decide (e.core=f)&&decide (e.peer=t)
def isTaken (f t:Nat) (e:Ent):Bool:=(decide (e.kind=2)||decide (e.kind=3))&&decide (e.core=t)&&decide (e.peer=f)
def isDone (k:Nat) (er:Int) (e:Ent):Bool:=decide (e.kind=k)&&decide (e.fin≠0)&&decide (e.err=er)
theorem beq_nat (a b:Nat):((a:Int) == (b:Int))=decide (a=b):=by
 rw [Bool.eq_iff_iff,beq_iff_eq,decide_eq_true_eq]
 omega
theorem beq_int (a b:Int):(a == b)=decide (a=b):=by
 rw [Bool.eq_iff_iff,beq_iff_eq,decide_eq_true_eq]
set_option maxHeartbeats 1000000 in
set_option maxRecDepth 100000 in
theorem of1_any (e:Ent) (l:Value) (A B:Nat) (f t:Nat) (w:World) (hA:w.cell? ⟨A,0,none⟩=some (.int .i64 (f:Int))) (hB:w.cell? ⟨B,0,none⟩=some (.int .i64 (t:Int))):
  Calls Tryz.prog 73 #[.agg #[.int .i64 (e.core:Int), .int .i64 (e.peer:Int), .int .i64 (e.kind:Int), .int .i64 (e.bgn:Int), .int .i64 (e.fin:Int), .int .i64 e.err,l, .int .i64 e.handle], .pointer (some ⟨A,0,none⟩), .pointer (some ⟨B,0,none⟩)] w fun r w'=>r= .returned (.bool (isSent f t e))∧Below w.heap.size w w':=by
 have hAl:=World.block_lt_of_cell? w _ hA
 have hBl:=World.block_lt_of_cell? w _ hB
 simp only at hAl hBl
 obtain ⟨w1,hw1⟩:∃w1,w1=w.alloc (.cells #[.int .i64 (e.core:Int), .int .i64 (e.peer:Int), .int .i64 (e.kind:Int), .int .i64 (e.bgn:Int), .int .i64 (e.fin:Int), .int .i64 e.err,l, .int .i64 e.handle] 82):=⟨_,rfl⟩
 have hb:Below w.heap.size w w1:=by rw [hw1];exact (Below.refl _ _).alloc (Nat.le_refl _) _
 have hk:Blk w1 w.heap.size 82 [.int .i64 (e.core:Int), .int .i64 (e.peer:Int), .int .i64 (e.kind:Int), .int .i64 (e.bgn:Int), .int .i64 (e.fin:Int), .int .i64 e.err,l, .int .i64 e.handle]:=by rw [hw1];exact Blk.new w 82 _
 have cA:w1.cell? ⟨A,0,none⟩=some (.int .i64 (f:Int)):=(hb.cell hAl).trans hA
 have cB:w1.cell? ⟨B,0,none⟩=some (.int .i64 (t:Int)):=(hb.cell hBl).trans hB
 have y0:=hk.cell 0
 have y1:=hk.cell 1
 have y2:=hk.cell 2
 simp only [List.getElem?_cons_zero,List.getElem?_cons_succ] at y0 y1 y2
 have HW:=Lib.hid hw1
 have HB:=Lib.hid hb
 have e1:=beq_nat e.kind 1
 have e2:=beq_nat e.core f
 have e3:=beq_nat e.peer t
 have e1:((e.kind:Int) == 1)=decide (e.kind=1):=e1
 unfold isSent
 cases h1:decide (e.kind=1)<;>cases h2:decide (e.core=f)<;>cases h3:decide (e.peer=t)<;>rw [h1] at e1<;>rw [h2] at e2<;>rw [h3] at e3<;>(
  clear hw1 hb hk hA hB hAl hBl h1 h2 h3
  go_enter Tryz.func73,Tryz.ntmps73
  go_upto_region 1 with fail
  rw [←HW.out]
  go_wp2_with fail
  go_ret
  exact ⟨rfl,HB.out⟩)
set_option maxHeartbeats 2000000 in
set_option maxRecDepth 100000 in
theorem of2_any (e:Ent) (l:Value) (A B:Nat) (f t:Nat) (w:World) (hA:w.cell? ⟨A,0,none⟩=some (.int .i64 (t:Int))) (hB:w.cell? ⟨B,0,none⟩=some (.int .i64 (f:Int))):
  Calls Tryz.prog 74 #[.agg #[.int .i64 (e.core:Int), .int .i64 (e.peer:Int), .int .i64 (e.kind:Int), .int .i64 (e.bgn:Int), .int .i64 (e.fin:Int), .int .i64 e.err,l, .int .i64 e.handle], .pointer (some ⟨A,0,none⟩), .pointer (some ⟨B,0,none⟩)] w fun r w'=>r= .returned (.bool (isTaken f t e))∧Below w.heap.size w w':=by
 have hAl:=World.block_lt_of_cell? w _ hA
 have hBl:=World.block_lt_of_cell? w _ hB
 simp only at hAl hBl
 obtain ⟨w1,hw1⟩:∃w1,w1=w.alloc (.cells #[.int .i64 (e.core:Int), .int .i64 (e.peer:Int), .int .i64 (e.kind:Int), .int .i64 (e.bgn:Int), .int .i64 (e.fin:Int), .int .i64 e.err,l, .int .i64 e.handle] 82):=⟨_,rfl⟩
 have hb:Below w.heap.size w w1:=by rw [hw1];exact (Below.refl _ _).alloc (Nat.le_refl _) _
 have hk:Blk w1 w.heap.size 82 [.int .i64 (e.core:Int), .int .i64 (e.peer:Int), .int .i64 (e.kind:Int), .int .i64 (e.bgn:Int), .int .i64 (e.fin:Int), .int .i64 e.err,l, .int .i64 e.handle]:=by rw [hw1];exact Blk.new w 82 _
 have cA:w1.cell? ⟨A,0,none⟩=some (.int .i64 (t:Int)):=(hb.cell hAl).trans hA
 have cB:w1.cell? ⟨B,0,none⟩=some (.int .i64 (f:Int)):=(hb.cell hBl).trans hB
 have y0:=hk.cell 0
 have y1:=hk.cell 1
 have y2:=hk.cell 2
 simp only [List.getElem?_cons_zero,List.getElem?_cons_succ] at y0 y1 y2
 have HW:=Lib.hid hw1
 have HB:=Lib.hid hb
 have e1:=beq_nat e.kind 2
 have e4:=beq_nat e.kind 3
 have e2:=beq_nat e.core t
 have e3:=beq_nat e.peer f
 have e1:((e.kind:Int) == 2)=decide (e.kind=2):=e1
 have e4:((e.kind:Int) == 3)=decide (e.kind=3):=e4
 unfold isTaken
 cases h1:decide (e.kind=2)<;>cases h4:decide (e.kind=3)<;>cases h2:decide (e.core=t)<;>cases h3:decide (e.peer=f)<;>rw [h1] at e1<;>rw [h2] at e2<;>rw [h3] at e3<;>rw [h4] at e4<;>(
  clear hw1 hb hk hA hB hAl hBl h1 h2 h3 h4
  go_enter Tryz.func74,Tryz.ntmps74
  go_upto_region 1 with fail
  rw [←HW.out]
  go_wp2_with fail
  go_ret
  exact ⟨rfl,HB.out⟩)
set_option maxHeartbeats 1000000 in
set_option maxRecDepth 100000 in
theorem count1_any (e:Ent) (l:Value) (A B:Nat) (k:Nat) (er:Int) (w:World) (hA:w.cell? ⟨A,0,none⟩=some (.int .i64 (k:Int))) (hB:w.cell? ⟨B,0,none⟩=some (.int .i64 er)):
  Calls Tryz.prog 75 #[.agg #[.int .i64 (e.core:Int), .int .i64 (e.peer:Int), .int .i64 (e.kind:Int), .int .i64 (e.bgn:Int), .int .i64 (e.fin:Int), .int .i64 e.err,l, .int .i64 e.handle], .pointer (some ⟨A,0,none⟩), .pointer (some ⟨B,0,none⟩)] w fun r w'=>r= .returned (.bool (isDone k er e))∧Below w.heap.size w w':=by
 have hAl:=World.block_lt_of_cell? w _ hA
 have hBl:=World.block_lt_of_cell? w _ hB
 simp only at hAl hBl
 obtain ⟨w1,hw1⟩:∃w1,w1=w.alloc (.cells #[.int .i64 (e.core:Int), .int .i64 (e.peer:Int), .int .i64 (e.kind:Int), .int .i64 (e.bgn:Int), .int .i64 (e.fin:Int), .int .i64 e.err,l, .int .i64 e.handle] 82):=⟨_,rfl⟩
 have hb:Below w.heap.size w w1:=by rw [hw1];exact (Below.refl _ _).alloc (Nat.le_refl _) _
 have hk:Blk w1 w.heap.size 82 [.int .i64 (e.core:Int), .int .i64 (e.peer:Int), .int .i64 (e.kind:Int), .int .i64 (e.bgn:Int), .int .i64 (e.fin:Int), .int .i64 e.err,l, .int .i64 e.handle]:=by rw [hw1];exact Blk.new w 82 _
 have cA:w1.cell? ⟨A,0,none⟩=some (.int .i64 (k:Int)):=(hb.cell hAl).trans hA
 have cB:w1.cell? ⟨B,0,none⟩=some (.int .i64 er):=(hb.cell hBl).trans hB
 have y2:=hk.cell 2
 have y4:=hk.cell 4
 have y5:=hk.cell 5
 simp only [List.getElem?_cons_zero,List.getElem?_cons_succ] at y2 y4 y5
 have HW:=Lib.hid hw1
 have HB:=Lib.hid hb
 have e1:=beq_nat e.kind k
 have e2:((e.fin:Int) != 0)=decide (e.fin≠0):=by
  rw [Bool.eq_iff_iff,bne_iff_ne,decide_eq_true_eq]
  omega
 have e3:=beq_int e.err er
 unfold isDone
 cases h1:decide (e.kind=k)<;>cases h2:decide (e.fin≠0)<;>cases h3:decide (e.err=er)<;>rw [h1] at e1<;>rw [h2] at e2<;>rw [h3] at e3<;>(
  clear hw1 hb hk hA hB hAl hBl h1 h2 h3
  go_enter Tryz.func75,Tryz.ntmps75
  go_upto_region 1 with fail
  rw [←HW.out]
  go_wp2_with fail
  go_ret
  exact ⟨rfl,HB.out⟩)
set_option maxHeartbeats 1000000 in
set_option maxRecDepth 100000 in
theorem dOf_any (v:Value) (d:List Ent) (dl:Nat→Value) (f t:Nat) (w:World) (h:DRow w v d dl) (hd:d.length≤50000) (hs:∀j,j<d.length→(d.getD j Ent.none_).load.length≤1000):
  Calls Tryz.prog 34 #[v, .int .i64 (f:Int), .int .i64 (t:Int)] w fun r w'=>∃v1 v2 dl1 dl2,r= .returned (.tuple #[v1,v2])∧Below w.heap.size w w'∧DRow w' v1 (d.filter (isSent f t)) dl1∧DRow w' v2 (d.filter (isTaken f t)) dl2∧∀k,v2.ownBlock=some k→w.heap.size≤k:=by
 obtain ⟨A,cp,hv⟩:=h.slice
 subst hv
 obtain ⟨w1,hw1⟩:∃w1,w1=(w.alloc (.cells #[.int .i64 (f:Int)] 3)).alloc (.cells #[.int .i64 (t:Int)] 3):=⟨_,rfl⟩
 have hb:Below w.heap.size w w1:=by rw [hw1];exact ((Below.refl _ _).alloc (Nat.le_refl _) _).alloc (by simp) _
 have cA:w1.cell? ⟨w.heap.size,0,none⟩=some (.int .i64 (f:Int)):=by
  rw [hw1];exact cell_alloc ((Blk.new w 3 [.int .i64 (f:Int)]).cell 0)
 have cB:w1.cell? ⟨w.heap.size+1,0,none⟩=some (.int .i64 (t:Int)):=by
  rw [hw1]
  have:=(Blk.new (w.alloc (.cells #[.int .i64 (f:Int)] 3)) 3 [.int .i64 (t:Int)]).cell 0
  have e:(w.alloc (.cells #[.int .i64 (f:Int)] 3)).heap.size=w.heap.size+1:=by simp
  rw [e] at this
  exact this
 have hAl:=World.block_lt_of_cell? w1 _ cA
 have hBl:=World.block_lt_of_cell? w1 _ cB
 simp only at hAl hBl
 have en1:Enters 73:=enters Tryz.func73 (by kernel_rfl) rfl
 have en2:Enters 74:=enters Tryz.func74 (by kernel_rfl) rfl
 have h1:=h.fresh hb
 have hc1:=some_any (isSent f t) 73 #[.pointer (some ⟨w.heap.size,0,none⟩), .pointer (some ⟨w.heap.size+1,0,none⟩)] en1 _ d dl w1 h1 hd hs (fun u e l hu=>of1_any e l _ _ f t u ((hu.cell hAl).trans cA) ((hu.cell hBl).trans cB))
 have hc2:∀u,Below w1.heap.size w1 u→_:=fun u hu=>some_any (isTaken f t) 74 #[.pointer (some ⟨w.heap.size+1,0,none⟩), .pointer (some ⟨w.heap.size,0,none⟩)] en2 _ d dl u (h1.fresh hu) hd hs (fun u' e l hu'=>of2_any e l _ _ f t u' ((hu'.cell (Nat.lt_of_lt_of_le hBl hu.size)).trans ((hu.cell hBl).trans cB)) ((hu'.cell (Nat.lt_of_lt_of_le hAl hu.size)).trans ((hu.cell hAl).trans cA)))
 have HW:=Lib.hid hw1
 have HB:=Lib.hid hb
 have H1:=Lib.hid hc1
 have H2:=Lib.hid hc2
 clear hw1 hb cA cB hAl hBl en1 en2 h1 hc1 hc2 h hs
 go_enter Tryz.func34,Tryz.ntmps34
 go_upto_region 1 with fail
 rw [←HW.out]
 go_wp2_with fail
 refine H1.out.mono ?_
 rintro r w2 ⟨v1,dl1,rfl,hE1⟩
 have hc2:=H2.out w2 hE1.b
 have HC2:=Lib.hid hc2
 have HE1:=Lib.hid hE1
 clear hc2 hE1 H2
 go_wp2_with fail
 refine HC2.out.mono ?_
 rintro r w3 ⟨v2,dl2,rfl,hE2⟩
 have HE2:=Lib.hid hE2
 clear hE2
 go_wp2_with fail
 go_ret2
 have hbb:=HB.out.trans (HE1.out.b.mono HB.out.size)
 exact ⟨_,_,dl1,dl2,rfl,hbb.trans (HE2.out.b.mono hbb.size),HE1.out.read.fresh HE2.out.b,HE2.out.read,fun k q=>Nat.le_trans hbb.size (HE2.out.own k q)⟩
set_option maxHeartbeats 1000000 in
set_option maxRecDepth 100000 in
theorem dCount_any (v:Value) (d:List Ent) (dl:Nat→Value) (k:Nat) (er:Int) (w:World) (h:DRow w v d dl) (hd:d.length≤50000) (hs:∀j,j<d.length→(d.getD j Ent.none_).load.length≤1000):
  Calls Tryz.prog 35 #[v, .int .i64 (k:Int), .int .i64 er] w fun r w'=>r= .returned (.int .i64 ((d.filter (isDone k er)).length:Int))∧Below w.heap.size w w':=by
 obtain ⟨A,cp,hv⟩:=h.slice
 subst hv
 obtain ⟨w1,hw1⟩:∃w1,w1=(w.alloc (.cells #[.int .i64 (k:Int)] 3)).alloc (.cells #[.int .i64 er] 26):=⟨_,rfl⟩
 have hb:Below w.heap.size w w1:=by rw [hw1];exact ((Below.refl _ _).alloc (Nat.le_refl _) _).alloc (by simp) _
 have cA:w1.cell? ⟨w.heap.size,0,none⟩=some (.int .i64 (k:Int)):=by
  rw [hw1];exact cell_alloc ((Blk.new w 3 [.int .i64 (k:Int)]).cell 0)
 have cB:w1.cell? ⟨w.heap.size+1,0,none⟩=some (.int .i64 er):=by
  rw [hw1]
  have:=(Blk.new (w.alloc (.cells #[.int .i64 (k:Int)] 3)) 26 [.int .i64 er]).cell 0
  have e:(w.alloc (.cells #[.int .i64 (k:Int)] 3)).heap.size=w.heap.size+1:=by simp
  rw [e] at this
  exact this
 have hAl:=World.block_lt_of_cell? w1 _ cA
 have hBl:=World.block_lt_of_cell? w1 _ cB
 simp only at hAl hBl
 have en1:Enters 75:=enters Tryz.func75 (by kernel_rfl) rfl
 have hc1:=some_any (isDone k er) 75 #[.pointer (some ⟨w.heap.size,0,none⟩), .pointer (some ⟨w.heap.size+1,0,none⟩)] en1 _ d dl w1 (h.fresh hb) hd hs (fun u e l hu=>count1_any e l _ _ k er u ((hu.cell hAl).trans cA) ((hu.cell hBl).trans cB))
 have HW:=Lib.hid hw1
 have HB:=Lib.hid hb
 have H1:=Lib.hid hc1
 clear hw1 hb cA cB hAl hBl en1 hc1 h hs
 go_enter Tryz.func35,Tryz.ntmps35
 go_upto_region 1 with fail
 rw [←HW.out]
 go_wp2_with fail
 refine H1.out.mono ?_
 rintro r w2 ⟨v1,dl1,rfl,hE1⟩
 obtain ⟨A1,q1,hv1⟩:=hE1.row.slice
 subst hv1
 have HE1:=Lib.hid hE1
 clear hE1
 go_wp2_with fail
 go_ret
 exact ⟨rfl,HB.out.trans (HE1.out.b.mono HB.out.size)⟩
end Go.Proofs.YtaaffebnajjfhaaGreatDoor.T
