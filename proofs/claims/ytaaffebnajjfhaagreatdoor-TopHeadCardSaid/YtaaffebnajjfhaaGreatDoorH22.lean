/- Texts of this proof, merged: Send, Bd. -/
import Derived.Test.YtaaffebnajjfhaaGreatDoorH10
import Derived.Test.YtaaffebnajjfhaaGreatDoorH09
namespace Go.Proofs.YtaaffebnajjfhaaGreatDoor.T
set_option linter.unusedVariables false
set_option linter.unusedSimpArgs false
set_option linter.unusedSectionVars false
open Go.RowKit
theorem wordless_any (x:Int) (w:World):Calls Tryz.prog 90 #[.int .i64 x] w fun e w'=>e= .returned (.bool (!(x == x%65536)))∧w=w':=by
 go_enter Tryz.func90,Tryz.ntmps90
 go_wp2_with fail
 refine (word_any _ _).mono ?_
 rintro e w' ⟨rfl,rfl⟩
 go_wp2_with fail
 go_ret
 exact ⟨rfl,rfl⟩
def wordsOk (xs:List Int):Bool:=xs.all fun x=>x == x%65536
theorem wordsOk_no {xs:List Int} {k:Nat} (hk:k<xs.length) (h:(xs.getD k 0 == xs.getD k 0%65536)=false):wordsOk xs=false:=by
 have e:xs.getD k 0=xs[k]:=by simp [hk]
 rw [e] at h
 unfold wordsOk
 rw [List.all_eq_false]
 exact ⟨xs[k],List.getElem_mem hk,by simpa using h⟩
theorem wordsOk_yes {xs:List Int} (h:∀i,i<xs.length→(xs.getD i 0 == xs.getD i 0%65536)=true):wordsOk xs=true:=by
 unfold wordsOk
 rw [List.all_eq_true]
 intro x hx
 obtain ⟨i,hi,rfl⟩:=List.mem_iff_getElem.1 hx
 have:=h i hi
 have e:xs.getD i 0=xs[i]:=by simp [hi]
 rw [e] at this
 exact this
set_option maxRecDepth 100000 in
theorem badIdx_any (v:Value) (xs:List Int) (hlen:xs.length≤1000) (w:World) (h:ReadI w v xs):
  Calls Tryz.prog 119 #[v, .func (.func 90) #[] #[]] w fun e w'=>∃r:Int,e= .returned (.int .i64 r)∧decide (0≤r)=(!wordsOk xs)∧w=w':=by
 obtain ⟨A,cc,hv⟩:=h.slice
 subst hv
 have H:=Lib.hid h;clear h
 have hen:Enters 90:=enters Tryz.func90 (by kernel_rfl) rfl
 go_enter Tryz.func119,Tryz.ntmps119
 go_wp2_with fail
 go_loopw [8] (fun j u=>∃k:Nat,k≤xs.length∧j= .int .i64 k∧(∀i,i<k→(xs.getD i 0 == xs.getD i 0%65536)=true)∧u=w)
  (fun j _=>xs.length-(intOf j).toNat)
 case atStart=>exact ⟨0,by omega,rfl,fun i hi=>by omega,rfl⟩
 case round=>
  obtain ⟨k,hk,rfl,hb,rfl⟩:=hrel
  have HBB:=Lib.hid hb;clear hb
  by_cases hkl:k<xs.length
  ·obtain ⟨g,off,c,he,hc,hcell⟩:=H.out.at_ k hkl
   injection he with he1 he2 he3
   subst he1 he3
   have hk0:(0:Int)≤(k:Int):=by omega
   have hk1:(k:Int)<(xs.length:Int):=by omega
   generalize hy:xs.getD k 0=y at *
   have HY:=Lib.hid hy;clear hy
   go_wp2_with fail
   refine (wordless_any y _).mono ?_
   rintro e w' ⟨rfl,rfl⟩
   by_cases hy:(y == y%65536)=true
   ·rw [hy]
    have HYY:=Lib.hid hy;clear hy
    go_wp2_with fail
    go_roundw
    case rel=>
     have hnext:∀i,i<k+1→(xs.getD i 0 == xs.getD i 0%65536)=true:=by
      intro i hi
      by_cases e:i=k
      ·rw [e,HY.out];exact HYY.out
      ·exact HBB.out i (by omega)
     first|exact ⟨k+1,by omega,by go_num,hnext,by first|trivial|rfl⟩|exact ⟨_,_,_,_,_,_,_,_,_,_,_,_,_,⟨k+1,by omega,by go_num,hnext,by first|trivial|rfl⟩,rfl⟩
    case measure=>simp [intOf];omega
   ·have hy:(y == y%65536)=false:=by simpa using hy
    have hw:=wordsOk_no hkl (by rw [HY.out];exact hy)
    rw [hy]
    have HW:=Lib.hid hw;clear hw hy
    go_wp2_with fail
    go_ret
    exact ⟨k,rfl,by rw [HW.out];simp,rfl⟩
  ·have hkn:k=xs.length:=by omega
   have hw:=wordsOk_yes (xs:=xs) (fun i hi=>HBB.out i (by omega))
   have HW:=Lib.hid hw;clear hw
   subst hkn
   go_wp2_with fail
   go_ret
   exact ⟨-1,rfl,by rw [HW.out];rfl,rfl⟩
theorem badAny_any (v:Value) (xs:List Int) (hlen:xs.length≤1000) (w:World) (h:ReadI w v xs):
  Calls Tryz.prog 71 #[v, .func (.func 90) #[] #[]] w fun e w'=>e= .returned (.bool (!wordsOk xs))∧w=w':=by
 have hC:=badIdx_any v xs hlen w h
 generalize wordsOk xs=y at *
 have HC:=Lib.hid hC;clear hC h
 go_enter Tryz.func71,Tryz.ntmps71
 go_wp2_with fail
 refine HC.out.mono ?_
 rintro e w' ⟨r,rfl,hr,rfl⟩
 have HR:=Lib.hid hr;clear hr
 go_wp2_with fail
 go_ret
 exact ⟨by show Ending.returned (Value.bool (decide (0≤r)))=_;rw [HR.out],rfl⟩
def Giv.send (g:Giv) (xs:List Int):Giv × Int:=
 if g.pc≠0 then (g,11) else if 8<xs.length then (g,18) else if wordsOk xs=false then (g,2) else ({ g with load:=xs.map Int.toNat,pc:=1 },0)
theorem wordsOk_nats {xs:List Int} (h:wordsOk xs=true):nats (xs.map Int.toNat)=xs:=by
 unfold wordsOk at h
 rw [List.all_eq_true] at h
 unfold nats
 rw [List.map_map]
 conv=>rhs;rw [←List.map_id xs]
 apply List.map_congr_left
 intro x hx
 have:=h x hx
 simp only [beq_iff_eq] at this
 simp only [Function.comp,id]
 omega
def SendTo (w0:World) (b:Nat) (vf vo vl:Value) (g:Giv) (w:World):Prop:=
 ∃vl',GivAt w b vf vo vl' g∧Keep (fun k=>k=b) w0 w∧∀q,vl'.ownBlock=some q→vl.ownBlock=some q∨w0.heap.size≤q
set_option maxRecDepth 100000 in
theorem gSend_any (b:Nat) (vf vo vl:Value) (g:Giv) (v:Value) (xs:List Int) (hlen:xs.length≤1000) (w:World) (h:GivAt w b vf vo vl g) (hx:ReadI w v xs):
  Calls Tryz.prog 52 #[.pointer (some ⟨b,0,none⟩),v] w fun e w'=>e= .returned (.int .i64 (g.send xs).2)∧SendTo w b vf vo vl (g.send xs).1 w':=by
 have c11:=h.blk.cell 11
 simp only [Giv.cells,List.getElem?_cons_zero,List.getElem?_cons_succ] at c11
 obtain ⟨A,c,hv⟩:=hx.slice
 subst hv
 have hrefl:SendTo w b vf vo vl g w:=⟨vl,h,Keep.refl _ _,fun q hq=> .inl hq⟩
 by_cases h0:g.pc=0
 ·rw [h0] at c11
  by_cases h8:8<xs.length
  ·have hr:g.send xs=(g,18):=by unfold Giv.send;rw [if_neg (by simpa using h0),if_pos h8]
   rw [hr]
   have h8':(8:Int)<(xs.length:Int):=by omega
   have HR:=Lib.hid hrefl;clear hrefl h hx hr h0 h8 hlen
   generalize xs.length=n at *
   go_enter Tryz.func52,Tryz.ntmps52
   go_wp2_with fail
   go_ret
   exact ⟨rfl,HR.out⟩
  ·have h8':(xs.length:Int)≤8:=by omega
   have hB:=badAny_any _ xs hlen w hx
   by_cases hw:wordsOk xs=true
   ·have hr:g.send xs=({ g with load:=xs.map Int.toNat,pc:=1 },0):=by unfold Giv.send;rw [if_neg (by simpa using h0),if_neg h8,if_neg (by rw [hw];simp)]
    rw [hr]
    rw [hw] at hB
    have hC:=clone_any _ xs hlen w hx
    have HN:=Lib.hid (wordsOk_nats hw)
    have HB:=Lib.hid hB;clear hB
    have HC:=Lib.hid hC;clear hC
    have H:=Lib.hid h;clear hrefl h hx hr h0 h8 hlen hw
    generalize hn:xs.length=n at *
    have HNN:=Lib.hid hn;clear hn
    go_enter Tryz.func52,Tryz.ntmps52
    go_wp2_with fail
    refine HB.out.mono ?_
    rintro e w' ⟨rfl,rfl⟩
    go_wp2_with fail
    refine HC.out.mono ?_
    rintro e w1 ⟨v1,rfl,hR1,ho1,hb1⟩
    have hg1:=H.out.fresh hb1
    have c11:=hg1.blk.cell 11
    have c16:=hg1.blk.cell 16
    simp only [Giv.cells,List.getElem?_cons_zero,List.getElem?_cons_succ] at c11 c16
    have f11:=hg1.blk.free 11
    have f16:=hg1.blk.free 16
    obtain ⟨A1,c1,hv1, -, -⟩:=Row.slice hR1
    obtain ⟨Al,cl,hvl, -, -⟩:=Row.slice hg1.load
    subst hv1 hvl
    have hfin:GivAt ((w1.setCell ⟨b,16,none⟩ (.slice A1 xs.length c1)).setCell ⟨b,11,none⟩ (.int .i64 1)) b vf vo (.slice A1 xs.length c1) { g with load:=xs.map Int.toNat,pc:=1 }:=by
     have m1:=hg1.blk.set 16 (.slice A1 xs.length c1)
     refine ⟨m1.set 11 (.int .i64 1),Row.far (Row.far hg1.free hg1.blk (by decide) 16 _) m1 (by decide) 11 _,Row.far (Row.far hg1.out hg1.blk (by decide) 16 _) m1 (by decide) 11 _, ?_,hg1.fo, ?_, ?_⟩
     ·show RowI _ _ (nats (xs.map Int.toNat))
      rw [HN.out]
      exact Row.far (Row.far hR1 hg1.blk (by decide) 16 _) m1 (by decide) 11 _
     ·intro q hq e
      have:=ho1 q e
      have:=H.out.lt q (.inr (.inl hq))
      omega
     ·intro q hq e
      have:=ho1 q e
      have:=H.out.lt q (.inr (.inr (.inl hq)))
      omega
    have hkp:Keep (fun k=>k=b) w ((w1.setCell ⟨b,16,none⟩ (.slice A1 xs.length c1)).setCell ⟨b,11,none⟩ (.int .i64 1)):=(Keep.ofFresh hb1 (B:=0)).trans' (Keep.one.trans' Keep.one)
    have HF:=Lib.hid (And.intro hfin (And.intro hkp ho1));clear hfin hkp ho1 hb1 hg1 hR1
    go_wp2_with fail
    go_ret
    exact ⟨rfl,_,HF.out.1,HF.out.2.1,fun q hq=> .inr (HF.out.2.2 q hq)⟩
   ·have hw:wordsOk xs=false:=by simpa using hw
    have hr:g.send xs=(g,2):=by unfold Giv.send;rw [if_neg (by simpa using h0),if_neg h8,if_pos hw]
    rw [hr]
    rw [hw] at hB
    have HB:=Lib.hid hB;clear hB
    have HR:=Lib.hid hrefl;clear hrefl h hx hr h0 h8 hlen hw
    generalize xs.length=n at *
    go_enter Tryz.func52,Tryz.ntmps52
    go_wp2_with fail
    refine HB.out.mono ?_
    rintro e w' ⟨rfl,rfl⟩
    go_wp2_with fail
    go_ret
    exact ⟨rfl,HR.out⟩
 ·have hr:g.send xs=(g,11):=by unfold Giv.send;rw [if_pos h0]
  rw [hr]
  have e0:((g.pc:Int) == 0)=false:=by rw [beq_eq_false_iff_ne];omega
  have HR:=Lib.hid hrefl;clear hrefl h hx hr h0 hlen
  go_enter Tryz.func52,Tryz.ntmps52
  go_wp2_with fail
  go_ret
  exact ⟨rfl,HR.out⟩
structure Ent where
 core:Nat
 peer:Nat
 kind:Nat
 bgn:Nat
 fin:Nat
 err:Int
 load:List Int
 handle:Int
inductive Run where
 | giv (p:Nat)
 | tak (p:Nat)
structure Cor where
 giv:Nat→Giv
 tak:Nat→Tak
 runs:Option Run
 entry:Nat
structure Bd where
 n:Nat
 ring:Nat
 most:Nat
 sc:Sc
 cor:Nat→Cor
 diary:List Ent
 now:Nat
structure Ev where
 kind:Int
 core:Int
 peer:Int
 handle:Int
 load:List Int
def Ent.none_:Ent:=⟨0,0,0,0,0,0, [],0⟩
def chanBase (n ring f t:Nat):Nat:=(f*(n-1)+if f<t then t-1 else t)*(4+11*ring)
def newGiv (n ring c p own:Nat):Giv:=
 ⟨chanBase n ring c p,ring,c,p,own,if own=0 then 0 else -1,false,List.range ring, [],0,0,0,0,0,0,0, []⟩
def newTak (n ring c p own:Nat):Tak:=
 ⟨chanBase n ring p c,ring,c,p,own,if own=0 then 0 else -1,false,0,0,0,0,0,0,false, [],0,Grants.newTb ring⟩
def freshCor (n ring c own:Nat):Cor:=⟨fun p=>newGiv n ring c p own,fun p=>newTak n ring c p own,none,0⟩
namespace Bd
def new (n ring most:Nat):Bd:=⟨n,ring,most,⟨fun _=>0,fun _=> [],Gates.newGt n⟩,fun c=>freshCor n ring c 0, [],0⟩
def has (b:Bd) (c:Int):Prop:=0≤c∧c<b.n
instance (b:Bd) (c:Int):Decidable (b.has c):=by unfold has;infer_instance
def up (b:Bd) (c:Nat):Prop:=b.sc.g.held.getD c false=false
instance (b:Bd) (c:Nat):Decidable (b.up c):=by unfold up;infer_instance
def setCor (b:Bd) (c:Nat) (k:Cor):Bd:= { b with cor:=upd b.cor c k }
def setSc (b:Bd) (s:Sc):Bd:= { b with sc:=s }
def fin (b:Bd) (k:Nat) (e:Int):List Ent:=b.diary.set k { b.diary.getD k Ent.none_ with fin:=b.now,err:=e }
def finT (b:Bd) (k:Nat) (e:Int) (g:List Nat × Int):List Ent:=
 let x:=b.diary.getD k Ent.none_
 b.diary.set k (if x.kind=2∧e=0 then { x with fin:=b.now,err:=e,load:=g.1.map (Nat.cast:Nat→Int),handle:=g.2 } else { x with fin:=b.now,err:=e })
def step (b:Bd) (c:Nat):Bd × Int:=
 let k:=b.cor c
 match k.runs with
 | none=>(b,13)
 | some (.giv p)=>
  let g:=k.giv p
  let r:=b.sc.tch b.most c g.tch
  let o:=g.go r.2
  if o.2.1=true then ({ (b.setSc r.1).setCor c { k with giv:=upd k.giv p o.1,runs:=none } with diary:=b.fin k.entry o.2.2 },0)
  else ((b.setSc r.1).setCor c { k with giv:=upd k.giv p o.1 },0)
 | some (.tak p)=>
  let t:=k.tak p
  let r:=b.sc.tch b.most c t.tch
  let o:=t.go r.2
  if o.2.1=true then ({ (b.setSc r.1).setCor c { k with tak:=upd k.tak p o.1,runs:=none } with diary:=b.finT k.entry o.2.2 o.1.gotR },0)
  else ((b.setSc r.1).setCor c { k with tak:=upd k.tak p o.1 },0)
def call (b:Bd) (x:Ev) (c p:Nat):Bd × Int:=
 let k:=b.cor c
 if x.kind=3 then
  let o:=(k.giv p).send x.load
  if o.2≠0 then (b,o.2)
  else ({ b.setCor c { k with giv:=upd k.giv p o.1,runs:=some (.giv p),entry:=b.diary.length } with diary:=b.diary ++ [⟨c,p,1,b.now,0,0,x.load,0⟩] },0)
 else if x.kind=4 then
  let o:=(k.tak p).recv
  if o.2≠0 then (b,o.2)
  else ({ b.setCor c { k with tak:=upd k.tak p o.1,runs:=some (.tak p),entry:=b.diary.length } with diary:=b.diary ++ [⟨c,p,2,b.now,0,0, [],0⟩] },0)
 else
  let o:=(k.tak p).release x.handle
  if o.2≠0 then (b,o.2)
  else ({ b.setCor c { k with tak:=upd k.tak p o.1,runs:=some (.tak p),entry:=b.diary.length } with diary:=b.diary ++ [⟨c,p,3,b.now,0,0, [],x.handle⟩] },0)
def act (b:Bd) (x:Ev):Bd × Int:=
 if x.kind=1 then
  if ¬b.has x.core then (b,3) else if ¬b.up x.core.toNat then (b,19) else b.step x.core.toNat
 else if x.kind=2 then
  if ¬b.has x.core then (b,3) else (b.setSc { b.sc with m:=drM b.sc.m (b.sc.q x.core.toNat),q:=upd b.sc.q x.core.toNat (b.sc.q x.core.toNat).tail },0)
 else if 3≤x.kind∧x.kind≤5 then
  if ¬b.has x.core∨ ¬b.has x.peer then (b,3) else if ¬b.up x.core.toNat then (b,19) else if x.core=x.peer then (b,2)
  else if (b.cor x.core.toNat).runs.isSome=true then (b,11) else b.call x x.core.toNat x.peer.toNat
 else if x.kind=6 then
  let o:=Gates.holdR b.sc.g x.core
  if o.2≠0 then (b,o.2)
  else ((b.setSc { b.sc with q:=upd b.sc.q x.core.toNat [],g:=o.1 }).setCor x.core.toNat { b.cor x.core.toNat with runs:=none,entry:=0 },0)
 else if x.kind=7 then
  let o:=Gates.startR b.sc.g x.core
  if o.2≠0 then (b,o.2)
  else ((b.setSc { b.sc with g:=o.1 }).setCor x.core.toNat (freshCor b.n b.ring x.core.toNat (o.1.eps.getD x.core.toNat 0).toNat),0)
 else (b,2)
def do_ (b:Bd) (x:Ev):Bd × Int:=({ b with now:=b.now+1 }:Bd).act x
end Bd
end Go.Proofs.YtaaffebnajjfhaaGreatDoor.T
