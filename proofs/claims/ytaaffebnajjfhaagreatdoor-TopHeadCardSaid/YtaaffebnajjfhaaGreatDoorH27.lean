/- Texts of this proof, merged: Epo, HeadA, HeadB, Shrt. -/
import Derived.Test.YtaaffebnajjfhaaGreatDoorH26
namespace Go.Proofs.YtaaffebnajjfhaaGreatDoor.T
set_option linter.unusedVariables false
set_option linter.unusedSimpArgs false
set_option linter.unusedSectionVars false
open Go.RowKit
theorem tch_gate (most c:Nat) (s:Sc) (t:Tch):(s.tch most c t).1.g=s.g:=by cases t<;>rfl
theorem step_gate (b:Bd) (c:Nat):(b.step c).1.sc.g=b.sc.g:=by
 unfold Bd.step
 simp only
 cases hr:(b.cor c).runs with
 | none=>rfl
 | some r=>
  cases r<;>simp only<;>split<;>exact tch_gate _ _ _ _
theorem call_gate (b:Bd) (x:Ev) (c p:Nat):(b.call x c p).1.sc.g=b.sc.g:=by
 unfold Bd.call
 simp only
 split
 ·split<;>rfl
 ·split
  ·split<;>rfl
  ·split<;>rfl
theorem do_gate (b:Bd) (x:Ev) (h6:x.kind≠6) (h7:x.kind≠7):(b.do_ x).1.sc.g=b.sc.g:=by
 unfold Bd.do_ Bd.act
 simp only
 rw [if_neg h6,if_neg h7]
 repeat' split
 all_goals first|rfl|exact step_gate _ _|exact call_gate _ _ _ _
def ents (c:Nat) (d:List Ent):List Ent:=d.filter fun e=>decide (e.core=c)
theorem ents_append (c:Nat) (d e:List Ent):ents c (d++e)=ents c d++ents c e:=by unfold ents;rw [List.filter_append]
theorem ents_one (c:Nat) (x:Ent):ents c [x]=if x.core=c then [x] else []:=by
 unfold ents
 by_cases h:x.core=c
 ·rw [if_pos h];simp [h]
 ·rw [if_neg h];simp [h]
theorem ents_none (c:Nat) (d:List Ent) (h:∀x∈d,x.core≠c):ents c d= []:=by
 unfold ents
 rw [List.filter_eq_nil_iff]
 intro x hx
 simpa using h x hx
theorem ents_set (c:Nat) (d:List Ent) (k:Nat) (hk:k<d.length) (h1:d[k].core=c) (h2:∀j (hj:j<d.length),k<j→d[j].core≠c):
  ∃Q,ents c d=Q ++ [d[k]]∧∀y:Ent,y.core=c→ents c (d.set k y)=Q ++ [y]:=by
 have h3:ents c (d.drop (k+1))= []:=by
  refine ents_none _ _ fun x hx=> ?_
  obtain ⟨j,hj,rfl⟩:=List.getElem_of_mem hx
  rw [List.length_drop] at hj
  rw [List.getElem_drop]
  exact h2 _ (by omega) (by omega)
 refine ⟨ents c (d.take k), ?_,fun y hy=> ?_⟩
 ·conv=>lhs;rw [split_at d k hk]
  rw [ents_append, ←List.singleton_append,ents_append,ents_one,if_pos h1,h3,List.append_nil]
 ·rw [set_at d k hk,ents_append, ←List.singleton_append,ents_append,ents_one,if_pos hy,h3,List.append_nil]
theorem ents_set_other (c:Nat) (d:List Ent) (k:Nat) (hk:k<d.length) (h1:d[k].core≠c) (y:Ent) (hy:y.core≠c):ents c (d.set k y)=ents c d:=by
 conv=>rhs;rw [split_at d k hk]
 rw [set_at d k hk,ents_append,ents_append, ←List.singleton_append, ←List.singleton_append (x:=d[k]),ents_append,ents_append,ents_one,ents_one,if_neg h1,if_neg hy]
theorem recsOf_ents (c:Nat):∀(d:List Ent) (L:List Nat),L.length=d.length→(∀x∈L,x=0)→recsOf c (d.zip L)=(ents c d).map fun e=>e.rec_ 0:=by
 intro d
 induction d with
 | nil=>intro L _ _;rfl
 | cons x d ih=>
  intro L hl h0
  cases L with
  | nil=>simp at hl
  | cons l L=>
   have hl0:l=0:=h0 l (by simp)
   subst hl0
   have h1:=ih L (by simpa using hl) (fun y hy=>h0 y (List.mem_cons_of_mem _ hy))
   rw [List.zip_cons_cons, ←List.singleton_append,recsOf_append,recsOf_one,h1]
   conv=>rhs;rw [←List.singleton_append (x:=x),ents_append,ents_one,List.map_append]
   by_cases e:x.core=c
   ·rw [if_pos e,if_pos e];rfl
   ·rw [if_neg e,if_neg e];rfl
structure HS where
 b:Bd
 next:Nat
 came:Nat
structure Mv where
 core:Int
 drain:Bool
def okCount (b:Bd):Nat:=(b.diary.filter fun e=>decide (e.kind=1∧e.core=0∧e.peer=1∧e.fin≠0∧e.err=0)).length
def takes (b:Bd):List Ent:=b.diary.filter fun e=>decide ((e.kind=2∨e.kind=3)∧e.core=1∧e.peer=0)
def Ent.came (e:Ent):Prop:=e.kind=2∧e.err=0∧e.fin≠0
instance (e:Ent):Decidable e.came:=by unfold Ent.came;infer_instance
def begunB (want:Loads) (b:Bd) (k:Nat):Bd × Nat:=if k<okCount b then (b,1) else ((b.do_ ⟨3,0,1,0,want.getD k []⟩).1,0)
def takenB (b:Bd):Bd × Nat:=
 match (takes b).getLast? with
 | some e=>if e.came then ((b.do_ ⟨5,1,0,e.handle, []⟩).1,1) else ((b.do_ ⟨4,1,0,0, []⟩).1,0)
 | none=>((b.do_ ⟨4,1,0,0, []⟩).1,0)
def hstep (want:Loads) (s:HS) (x:Mv):HS:=
 if x.core<0∨1<x.core then s
 else if x.drain=true then { s with b:=(s.b.do_ ⟨2,x.core,0,0, []⟩).1 }
 else if (s.b.cor x.core.toNat).runs.isSome=true then { s with b:=(s.b.do_ ⟨1,x.core,0,0, []⟩).1 }
 else if x.core=0∧s.next<want.length then { s with b:=(begunB want s.b s.next).1,next:=s.next+(begunB want s.b s.next).2 }
 else if x.core=1∧s.came<want.length then { s with b:=(takenB s.b).1,came:=s.came+(takenB s.b).2 }
 else s
def grank (g:Giv):Nat:=
 if g.pc=15 then (if g.answer=0 then 3 else 30)
 else if g.pc=14 then 4 else if g.pc=13 then 5 else if g.pc=12 then 6 else if g.pc=11 then 7 else if g.pc=10 then 8 else if g.pc=9 then 9
 else if g.pc=8 then 9+(g.load.length-g.i) else if g.pc=7 then 17+g.left else if g.pc=6 then 26 else if g.pc=5 then 27 else if g.pc=1 then 28 else 29
def trank (t:Tak):Nat:=
 if t.back=true then (if t.pc=1 then 24 else if t.pc=10 then 23 else if t.pc=11 then 22 else if t.pc=12 then 21 else if t.pc=13 then 20 else 19)
 else if t.pc=14 then (if t.answer=0 then 2 else 17) else if t.pc=9 then 2+(t.many-t.load.length) else if t.pc=8 then 11 else if t.pc=7 then 12 else if t.pc=6 then 13 else if t.pc=5 then 14 else if t.pc=1 then 15 else 16
section
variable {E R:Nat} {g g':Giv} {t t':Tak} {A:List GV} {B:List TV} {G:Gho} {w e:Int} {d:Bool} {u:TV} {v:GV}
theorem zero_g (h:Jn E R 0 0 true true g t A B G):g.known=0∧g.pc≠2∧g.pc≠3∧g.pc≤15∧(∀x∈A,x.pe=0)∧(∀x∈B,x.ce=0):=by
 obtain ⟨z,hz⟩:=last_of h.neA
 have hg:=h.gi rfl z hz
 have hk:=hg.wf.kn
 have hk0:=hg.wf.kn0
 have hz':=last_mem hz
 have hlow:=hg.low
 refine ⟨by omega,fun q=> ?_,fun q=> ?_,hg.wf.pcm,fun x hx=> ?_,fun x hx=> ?_⟩
 ·have:=hlow (.inr (.inl q)) z hz';omega
 ·have:=hlow (.inr (.inr q)) z hz';omega
 ·have:=h.av.le x hx;omega
 ·have:=h.bv.le x hx;omega
theorem zero_t (h:Jn E R 0 0 true true g t A B G):t.known=0∧t.pc≠2∧t.pc≠3∧t.pc≤14:=by
 obtain ⟨z,hz⟩:=last_of h.neB
 have hg:=h.ti rfl z hz
 have hk:=hg.wf.kn
 have hk0:=hg.wf.kn0
 have hz':=last_mem hz
 have hlow:=hg.low
 refine ⟨by omega,fun q=> ?_,fun q=> ?_,hg.wf.pcm⟩
 ·have:=hlow (.inr (.inl q)) z hz';omega
 ·have:=hlow (.inr (.inr q)) z hz';omega
theorem gturn (h:Jn E R 0 0 true true g t A B G) (hE:E<50000) (hR:R≤8) (h4:g.pc≠4) (h0:g.pc≠0) (hl8:g.load.length≤8) (hs:GStep g w g' d e) (hu:B.head? = some u) (hx:t.used≤u.ui) (hH:G.ulog.length+G.H.length≤G.hd)
  (w1:g.pc=1∨g.pc=15→w=0) (w5:g.pc=5→w=(u.ce:Int)) (w6:g.pc=6→w=(u.ui:Int)) (w7:g.pc=7→w=(u.used (g.tail%R):Int)):
  (d=true→g.pc=15∧g'.pc=0∧(e=0∧g.answer=0∧g'.next=g.next+1∧G.log.length=g.next+1∨(e=5∨e=10)∧g.answer=e∧g'.next=g.next))∧
  (d=false→g'.next=g.next∧g'.pc≠0∧g'.pc≠4∧g'.load=g.load∧(g.next<t.used+R→grank g'<grank g)):=by
 obtain ⟨z,hz⟩:=last_of h.neA
 have hgi:=h.gi rfl z hz
 obtain ⟨k0,p2,p3,p15,hpe,hce⟩:=zero_g h
 have hu':u∈B:=List.mem_of_head? hu
 have hin:g.linked=true→GIn (0+0) R z B G.log G.ulog G.H G.hd G.tl g:=fun q=>hgi.inn ⟨q,by simpa using k0,p2,p3,h4⟩
 have hwf:=hgi.wf
 have hlim:=h.lim
 have hhdl:=h.hdl
 have hmost:=h.bv.most u hu' (by have:=hce u hu';omega)
 cases hs with
 | askNew q r=>have:=w1 (.inl q);omega
 | askRoom q r s=>
  refine ⟨fun q=>(by cases q),fun _=>⟨rfl,by simp,by simp,rfl,fun _=> ?_⟩⟩
  simp [grank,q]
 | askLink q r s=>
  refine ⟨fun q=>(by cases q),fun _=>⟨rfl,by simp,by simp,rfl,fun _=> ?_⟩⟩
  simp [grank,q]
 | settle q=>exact absurd q h4
 | down q r=>
  have:=w5 q
  have:=hce u hu'
  have hep:g.ep=0:=by unfold Giv.ep;rw [hwf.own,k0];rfl
  rw [hep] at r
  omega
 | link q r=>
  refine ⟨fun q=>(by cases q),fun _=>⟨rfl,by simp,by simp,rfl,fun _=> ?_⟩⟩
  simp [grank,q]
 | corrupt6 l q r s=>
  have hi:=hin (hwf.wf6 (by omega))
  have hp:=hi.out.length_eq
  have h1:=(hi.ce u hu').2
  have h2:=hi.tail
  have h3:=hi.tle
  have:=w6 q
  simp only [List.length_append,List.length_drop,List.length_map] at hp
  refine ⟨fun q=>(by cases q),fun _=>⟨rfl,by simp,by simp,rfl,fun _=> ?_⟩⟩
  omega
 | back6 l q r s m=>
  have hi:=hin (hwf.wf6 (by omega))
  have hp:=hi.all.length_eq
  simp only [List.length_append,List.length_range] at hp
  refine ⟨fun q=>(by cases q),fun _=>⟨rfl,by simp,by simp,rfl,fun _=> ?_⟩⟩
  simp [grank,q]
  omega
 | full6 q r s=>
  have hi:=hin (hwf.wf6 (by omega))
  have hp:=hi.all.length_eq
  have hp2:=hi.out.length_eq
  have h1:=(hi.ce u hu').2
  have h2:=hi.tail
  have h3:=hi.tle
  have h5:=hi.next
  have:=w6 q
  have hns: ¬g.shown:=by unfold Giv.shown;omega
  have hcur:g.cur= []:=by unfold Giv.cur;rw [if_neg (by omega)]
  rw [if_neg hns] at h5
  simp only [List.length_append,List.length_range,s,List.length_nil] at hp
  simp only [List.length_append,List.length_drop,List.length_map,hcur,List.length_nil] at hp2
  refine ⟨fun q=>(by cases q),fun _=>⟨rfl,by simp,by simp,rfl,fun hen=> ?_⟩⟩
  omega
 | room6 d0 r0 p q r s m=>
  refine ⟨fun q=>(by cases q),fun _=>⟨rfl,by show p≠0;omega,by show p≠4;omega,rfl,fun _=> ?_⟩⟩
  rcases m with ⟨m1,rfl⟩|⟨m1,rfl⟩
  ·simp [grank,q]
  ·simp [grank,q];omega
 | corrupt7 q r=>
  have hi:=hin (hwf.wf6 (by omega))
  have h7:=hi.p7 q
  have h8:=h7.2 u hu'
  have h9:=h.bv.ok u hu' (by have:=hce u hu';omega) G.tl (Nat.le_refl _) (by omega)
  have ht:=hi.tail
  have hw:=w7 q
  rw [ht] at hw
  rw [h9] at hw
  refine ⟨fun q=>(by cases q),fun _=>⟨rfl,by simp,by simp,rfl,fun _=> ?_⟩⟩
  exfalso
  have hmem:G.ulog.getD G.tl 0∈g.out:=by
   refine hi.out.mem_iff.2 (List.mem_append_left _ ?_)
   have hlt:G.tl<G.ulog.length:=by omega
   rw [List.getD_eq_getElem?_getD,List.getElem?_eq_getElem hlt,Option.getD_some,List.drop_eq_getElem_cons hlt]
   exact List.mem_cons_self
  rw [List.findIdx?_eq_none_iff] at r
  have:=r _ hmem
  rw [hw] at this
  simp at this
 | back7 k q r s=>
  refine ⟨fun q=>(by cases q),fun _=>⟨rfl,by simp,by simp,rfl,fun _=> ?_⟩⟩
  simp [grank,q]
  omega
 | room7 k d0 r0 p q r s m n=>
  have hi:=hin (hwf.wf6 (by omega))
  have h7:=hi.p7 q
  refine ⟨fun q=>(by cases q),fun _=>⟨rfl,by show p≠0;omega,by show p≠4;omega,rfl,fun _=> ?_⟩⟩
  rcases n with ⟨m1,rfl⟩|⟨m1,rfl⟩
  ·simp [grank,q];omega
  ·simp [grank,q];omega
 | word p q r=>
  have hi:=hin (hwf.wf6 (by omega))
  have h8:=hi.i8 q
  refine ⟨fun q=>(by cases q),fun _=>⟨rfl,by show p≠0;omega,by show p≠4;omega,rfl,fun _=> ?_⟩⟩
  rcases r with ⟨m1,rfl⟩|⟨m1,rfl⟩
  ·simp [grank,q];omega
  ·simp [grank,q];omega
 | ring q=>
  refine ⟨fun q=>(by cases q),fun _=>⟨rfl,by simp,by simp,rfl,fun _=> ?_⟩⟩
  simp [grank,q]
 | reset q r=>have:=w1 (.inr q);omega
 | sent q r s=>
  have hi:=hin (hwf.wf6 (by omega))
  have h5:=hi.next
  have hsh:g.shown:=by unfold Giv.shown;omega
  rw [if_pos hsh] at h5
  refine ⟨fun _=>⟨q,rfl, .inl ⟨rfl,s, ?_,h5⟩⟩,fun q=>by cases q⟩
  show (g.next+1)%65536=g.next+1
  omega
 | told q r s=>
  have:=hwf.ans q
  exact ⟨fun _=>⟨q,rfl, .inr ⟨by omega,rfl,rfl⟩⟩,fun q=>by cases q⟩
 | next q=>
  refine ⟨fun q=>(by cases q),fun _=>⟨rfl,by simp,by show g.pc+1≠4;omega,rfl,fun _=> ?_⟩⟩
  have q:g.pc=9∨g.pc=10∨g.pc=11∨g.pc=12∨g.pc=13:=by omega
  rcases q with q|q|q|q|q<;>simp [grank,q]
end
def Shrt (b:Bd):Prop:=∀e∈b.diary,e.load.length≤8
theorem shrt_getD {d:List Ent} (h:∀e∈d,e.load.length≤8) (k:Nat):(d.getD k Ent.none_).load.length≤8:=by
 rw [List.getD_eq_getElem?_getD]
 cases hg:d[k]? with
 | none=>simp [Ent.none_]
 | some e=>exact h e (List.mem_of_getElem? hg)
theorem shrt_set {d:List Ent} (h:∀e∈d,e.load.length≤8) (k:Nat) {y:Ent} (hy:y.load.length≤8):∀e∈d.set k y,e.load.length≤8:=by
 intro e he
 rcases List.mem_or_eq_of_mem_set he with he|he
 ·exact h e he
 ·rw [he];exact hy
theorem step_shrt {b:Bd} {L:List Nat} (hG:Good b L) (hN:b.now<40000) {c:Nat} (hc:c<b.n) (hu:b.upb c=true) (h:Shrt b):Shrt (({ b with now:=b.now+1 }:Bd).step c).1:=by
 have hG':=hG.step hN hc hu
 obtain ⟨P,C,hI, -⟩:=hG
 have hran:=hI.ran c hc
 unfold Bd.Ran at hran
 unfold Bd.step at hG' ⊢
 simp only at hG' ⊢
 cases hr:(b.cor c).runs with
 | none=>exact h
 | some r=>
  rw [hr] at hran hG'
  cases r with
  | giv p=>
   simp only
   split
   ·exact shrt_set h _ (shrt_getD h _)
   ·exact h
  | tak p=>
   obtain ⟨_,hp,hpc,_⟩:=hran
   simp only at hG' ⊢
   split
   ·rename_i hd
    rw [if_pos hd] at hG'
    obtain ⟨P',C',hI', -⟩:=hG'
    have hm:=(hI'.mach c p hc hp hpc (by unfold Bd.upb at hu ⊢;simp only [Bd.setCor,Bd.setSc];rw [tch_g];exact hu)).tak.len
    simp only [Bd.setCor,Bd.setSc,upd_same] at hm
    unfold Shrt Bd.finT
    simp only
    refine shrt_set h _ ?_
    split
    ·simp only [List.length_map]
     unfold Tak.gotR
     split
     ·exact hm
     ·simp
    ·exact shrt_getD h _
   ·exact h
theorem call_shrt {b:Bd} (h:Shrt b) (x:Ev) (c p:Nat):Shrt (b.call x c p).1:=by
 have hpush:∀y:Ent,y.load.length≤8→∀e∈b.diary ++ [y],e.load.length≤8:=fun y hy e he=>by
  rcases List.mem_append.1 he with he|he
  ·exact h e he
  ·rw [List.mem_singleton.1 he];exact hy
 unfold Bd.call
 simp only
 split
 ·split
  ·exact h
  ·rename_i hs
   refine hpush _ ?_
   show x.load.length≤8
   refine Decidable.byContradiction fun q=>hs ?_
   unfold Giv.send
   split
   ·simp
   ·rw [if_pos (by omega)];simp
 ·split
  ·split
   ·exact h
   ·exact hpush _ (by simp)
  ·split
   ·exact h
   ·exact hpush _ (by simp)
theorem Good.shrt {b:Bd} {L:List Nat} (hG:Good b L) (hN:b.now<40000) (h:Shrt b) (x:Ev):Shrt (b.do_ x).1:=by
 unfold Bd.do_ Bd.act
 simp only
 split
 ·split
  ·exact h
  ·rename_i hh
   split
   ·exact h
   ·rename_i hu
    have h2:0≤x.core∧x.core<(b.n:Int):=Decidable.byContradiction fun q=>hh q
    exact step_shrt hG hN (by omega) ((upb_up b _).2 (Decidable.byContradiction fun q=>hu q)) h
 ·repeat' split
  all_goals first|exact h|exact call_shrt (b:= { b with now:=b.now+1 }) h _ _ _
end Go.Proofs.YtaaffebnajjfhaaGreatDoor.T
