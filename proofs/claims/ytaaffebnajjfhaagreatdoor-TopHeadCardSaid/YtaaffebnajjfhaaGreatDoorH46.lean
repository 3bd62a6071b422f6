/- Texts of this proof, merged: HeadI, HeadJ. -/
import Derived.Test.YtaaffebnajjfhaaGreatDoorH45
namespace Go.Proofs.YtaaffebnajjfhaaGreatDoor.T
set_option linter.unusedVariables false
set_option linter.unusedSimpArgs false
set_option linter.unusedSectionVars false
open Go.RowKit
section
variable {want:Loads} {s:HS}
theorem TakI.takes (h:TakI s):takes s.b=ents 1 s.b.diary:=by
 apply takes_ents
 intro x hx
 cases h with
 | idle a b c d e f g=>exact ⟨(c.all x hx).1,(c.all x hx).2.1⟩
 | got T y a b c d e f g i j k=>
  rw [c] at hx
  rcases List.mem_append.1 hx with hx|hx
  ·exact ⟨(d.all x hx).1,(d.all x hx).2.1⟩
  ·rw [List.mem_singleton.1 hx];exact ⟨.inl e.1,f⟩
 | recv T y a b c d e f g i j k l=>
  rw [d] at hx
  rcases List.mem_append.1 hx with hx|hx
  ·exact ⟨(e.all x hx).1,(e.all x hx).2.1⟩
  ·rw [List.mem_singleton.1 hx];exact ⟨.inl f,g⟩
 | rel T y a b c d e f g i j k l=>
  rw [d] at hx
  rcases List.mem_append.1 hx with hx|hx
  ·exact ⟨(e.all x hx).1,(e.all x hx).2.1⟩
  ·rw [List.mem_singleton.1 hx];exact ⟨.inr f,g⟩
theorem HI.goes (h:HI want s) (hc:s.came<want.length):en0 want.length s∨en1 s:=by
 have hg:s.next≤(g01 s.b).next∧(want.length≤s.next→s.next≤(g01 s.b).next):=by
  rcases h.giv with ⟨r,p,q,hnx⟩|⟨r,p,lt,e1,_⟩<;>omega
 obtain ⟨L,⟨P,C,hI,hD⟩,h0⟩:=h.calm.good
 have hr:=hI.r1
 unfold en0 en1
 cases h.tak with
 | idle a b c d e f g=>omega
 | got T x a b c d e f g i j k=>exact .inr (.inl (by omega))
 | recv T x a b c d e f g i j k l=>omega
 | rel T x a b c d e f g i j k l=>exact .inr (.inl (by omega))
theorem HI.turn1 (h:HI want s) (h8:∀l∈want,l.length≤8∧wordsOk l=true) (hN:s.b.now<40000):
  HI want (hstep want s ⟨1,false⟩)∧(hstep want s ⟨1,false⟩).b.now≤s.b.now+1∧s.came≤(hstep want s ⟨1,false⟩).came∧muT want.length (hstep want s ⟨1,false⟩)≤muT want.length s∧(s.came<want.length→en1 s→muT want.length (hstep want s ⟨1,false⟩)<muT want.length s)∧muG want.length (hstep want s ⟨1,false⟩)≤muG want.length s∧(en0 want.length s→en0 want.length (hstep want s ⟨1,false⟩)):=by
 have hn:=h.calm.n2
 have hother:∀s':HS,HI want s'→s'.next=s.next→s'.b.cor 0=s.b.cor 0→s'.b.ring=s.b.ring→(t10 s.b).used≤(t10 s'.b).used→muG want.length s'≤muG want.length s∧(en0 want.length s→en0 want.length s'):=by
  intro s' h' e1 e2 e3 e4
  have hg:g01 s'.b=g01 s.b:=by show (s'.b.cor 0).giv 1=_;rw [e2]
  have hgr:=h.grank_le
  unfold muG en0
  rw [e1,hg,e3]
  refine ⟨?_,fun q=>by omega⟩
  repeat' split
  all_goals omega
 have hrun:(s.b.cor 1).runs=some (.tak 0)→(∀j,(t10 s.b).tab.held.getD j false=false)→∀(T:List Ent) (e:Ent),ents 1 s.b.diary=T ++ [e]→TOk T (t10 s.b).head→e.peer=0→e.fin=0→((t10 s.b).back=false∧e.kind=2∧(t10 s.b).head=(t10 s.b).used∨(t10 s.b).back=true∧e.kind=3∧(t10 s.b).head=(t10 s.b).used+1)→s.came=(t10 s.b).head→
   HI want (hstep want s ⟨1,false⟩)∧(hstep want s ⟨1,false⟩).b.now≤s.b.now+1∧s.came≤(hstep want s ⟨1,false⟩).came∧muT want.length (hstep want s ⟨1,false⟩)≤muT want.length s∧(s.came<want.length→en1 s→muT want.length (hstep want s ⟨1,false⟩)<muT want.length s)∧muG want.length (hstep want s ⟨1,false⟩)≤muG want.length s∧(en0 want.length s→en0 want.length (hstep want s ⟨1,false⟩)):=by
  intro r hheld T e q1 q2 q3 q4 q5 q6
  have hst:hstep want s ⟨1,false⟩= { s with b:=(s.b.do_ ⟨1,1,0,0, []⟩).1 }:=by
   unfold hstep
   rw [if_neg (by simp),if_neg (by simp),if_pos (by show (s.b.cor 1).runs.isSome=true;rw [r];rfl)]
  obtain ⟨L,P,C,G,h0,hI,hD,hJ,hDg⟩:=h.calm.ch
  obtain ⟨c1,c2,c3,d,er,go,t1,t2,t3,t4,t5⟩:=h.calm.turnT (L:=L) hN r hheld hI hJ hDg (fun k hk=>h.log8 (fun l hl=>(h8 l hl).1) h0 hI hD hDg k hk)
  obtain ⟨hk,n1,Q,n2,n3⟩:=h.entry 1 (by omega) (by rw [r];rfl)
  have hnow:=(Bd.do_now s.b ⟨1,1,0,0, []⟩)
  have heS:T=Q∧e=s.b.diary[(s.b.cor 1).entry]:=by
   rw [q1] at n2
   obtain ⟨r1,r2⟩:=List.append_inj' n2 rfl
   exact ⟨r1,by simpa using r2⟩
  have hgd:s.b.diary.getD (s.b.cor 1).entry Ent.none_=e:=by rw [heS.2,List.getD_eq_getElem?_getD,List.getElem?_eq_getElem hk,Option.getD_some]
  have hec:e.core=1:=by rw [heS.2];exact n1
  obtain ⟨y,hy⟩:∃y:Ent,y=if e.kind=2∧er=0 then { e with fin:=s.b.now+1,err:=er,load:=go.1.map (Nat.cast:Nat→Int),handle:=go.2 } else { e with fin:=s.b.now+1,err:=er }:=⟨_,rfl⟩
  have hyk:y.kind=e.kind∧y.core=1∧y.peer=0∧y.fin≠0∧y.err=er∧(e.kind=2∧er=0→y.handle=go.2):=by
   rw [hy]
   split
   ·exact ⟨rfl,hec,q3,by simp,rfl,fun _=>rfl⟩
   ·rename_i q;exact ⟨rfl,hec,q3,by simp,rfl,fun q'=>absurd q' q⟩
  have hfin:({ s.b with now:=s.b.now+1 }:Bd).finT (s.b.cor 1).entry er go=s.b.diary.set (s.b.cor 1).entry y:=by
   rw [hy]
   unfold Bd.finT
   simp only [hgd]
  rw [hfin] at t3
  have hE0:ents 0 (s.b.do_ ⟨1,1,0,0, []⟩).1.diary=ents 0 s.b.diary:=by
   rw [t3]
   split
   ·exact ents_set_other 0 _ _ hk (by omega) _ (by omega)
   ·rfl
  have hG:=h.giv.same (s':= { s with b:=(s.b.do_ ⟨1,1,0,0, []⟩).1 }) c3 hE0 rfl
  rw [hst]
  cases d with
  | true=>
   obtain ⟨u1,u2⟩:=t4 rfl
   rw [if_pos rfl] at t1
   have hE1:ents 1 (s.b.do_ ⟨1,1,0,0, []⟩).1.diary=T ++ [y]:=by
    rw [t3,if_pos rfl,heS.1]
    exact n3 y hyk.2.1
   rcases u2 with ⟨v1,v2,v3,v4,v5,v6⟩|⟨v1,v2,v3,v4,v5,v6⟩|⟨v1,v2,v3,v4,v5,v6⟩
   ·
    have hk3:e.kind=3∧(t10 s.b).head=(t10 s.b).used+1:=by
     rcases q5 with q5|q5
     ·rw [v1] at q5;cases q5.1
     ·exact q5.2
    have hnc: ¬y.came:=fun q=>by have:=q.1;omega
    have hI':HI want { s with b:=(s.b.do_ ⟨1,1,0,0, []⟩).1 }:=by
     refine ⟨c1,hG, .idle t1 u1 ?_ ?_ ?_ ?_ v5⟩
     ·show TOk (ents 1 (s.b.do_ ⟨1,1,0,0, []⟩).1.diary) (t10 (s.b.do_ ⟨1,1,0,0, []⟩).1).head
      rw [hE1,v4]
      have:=q2.push (e:=y) (.inr (by omega)) hyk.2.2.1 hyk.2.2.2.1
      rw [if_neg hnc] at this
      exact this
     ·intro x hx
      have hx:(ents 1 (s.b.do_ ⟨1,1,0,0, []⟩).1.diary).getLast? = some x:=hx
      rw [hE1,List.getLast?_concat] at hx
      injection hx with hx
      rw [←hx];exact hnc
     ·show (t10 (s.b.do_ ⟨1,1,0,0, []⟩).1).head=(t10 (s.b.do_ ⟨1,1,0,0, []⟩).1).used
      omega
     ·show s.came=(t10 (s.b.do_ ⟨1,1,0,0, []⟩).1).head
      omega
    have hot:=hother _ hI' rfl c3 hnow.2.2.1 (by show (t10 s.b).used≤(t10 (s.b.do_ ⟨1,1,0,0, []⟩).1).used;omega)
    refine ⟨hI',by show (s.b.do_ _).1.now≤_;omega,Nat.le_refl _, ?_, ?_,hot.1,hot.2⟩
    ·unfold muT
     simp only [c2,v3,v4,t1,r,v1,v6]
     simp only [Option.isSome_some,Option.isSome_none,if_true,Bool.false_eq_true,if_false]
     repeat' split
     all_goals omega
    ·intro _ _
     unfold muT
     simp only [c2,v3,v4,t1,r,v1,v6]
     simp only [Option.isSome_some,Option.isSome_none,if_true,Bool.false_eq_true,if_false]
     repeat' split
     all_goals omega
   ·
    have hk2:e.kind=2∧(t10 s.b).head=(t10 s.b).used:=by
     rcases q5 with q5|q5
     ·exact q5.2
     ·rw [v1] at q5;cases q5.1
    have hyh:y.handle=go.2:=hyk.2.2.2.2.2 ⟨hk2.1,v2⟩
    have hyc:y.came:=⟨by omega,by rw [hyk.2.2.2.2.1];exact v2,hyk.2.2.2.1⟩
    have hI':HI want { s with b:=(s.b.do_ ⟨1,1,0,0, []⟩).1 }:=by
     refine ⟨c1,hG, .got T y t1 u1 hE1 ?_ hyc hyk.2.2.1 ?_ ?_ ?_ ?_⟩
     ·show TOk T (t10 (s.b.do_ ⟨1,1,0,0, []⟩).1).used
      rw [v3, ←hk2.2];exact q2
     ·rw [hyh];exact v5
     ·rw [hyh];exact v6
     ·show (t10 (s.b.do_ ⟨1,1,0,0, []⟩).1).head=(t10 (s.b.do_ ⟨1,1,0,0, []⟩).1).used+1
      omega
     ·show s.came=(t10 (s.b.do_ ⟨1,1,0,0, []⟩).1).used
      omega
    have hot:=hother _ hI' rfl c3 hnow.2.2.1 (by show (t10 s.b).used≤(t10 (s.b.do_ ⟨1,1,0,0, []⟩).1).used;omega)
    have htr2:2≤trank (t10 s.b):=by
     unfold trank
     rw [if_neg (by rw [v1];simp)]
     repeat' split
     all_goals omega
    refine ⟨hI',by show (s.b.do_ _).1.now≤_;omega,Nat.le_refl _, ?_, ?_,hot.1,hot.2⟩
    ·unfold muT
     simp only [c2,v3,v4,t1,r,v1]
     simp only [Option.isSome_some,Option.isSome_none,if_true,Bool.false_eq_true,if_false]
     repeat' split
     all_goals omega
    ·intro _ _
     unfold muT
     simp only [c2,v3,v4,t1,r,v1]
     simp only [Option.isSome_some,Option.isSome_none,if_true,Bool.false_eq_true,if_false]
     repeat' split
     all_goals omega
   ·
    have hk2:e.kind=2∧(t10 s.b).head=(t10 s.b).used:=by
     rcases q5 with q5|q5
     ·exact q5.2
     ·rw [v1] at q5;cases q5.1
    have hnc: ¬y.came:=fun q=>by have:=q.2.1;have:=hyk.2.2.2.2.1;omega
    have hI':HI want { s with b:=(s.b.do_ ⟨1,1,0,0, []⟩).1 }:=by
     refine ⟨c1,hG, .idle t1 u1 ?_ ?_ ?_ ?_ v5⟩
     ·show TOk (ents 1 (s.b.do_ ⟨1,1,0,0, []⟩).1.diary) (t10 (s.b.do_ ⟨1,1,0,0, []⟩).1).head
      rw [hE1,v4]
      have:=q2.push (e:=y) (.inl (by omega)) hyk.2.2.1 hyk.2.2.2.1
      rw [if_neg hnc] at this
      exact this
     ·intro x hx
      have hx:(ents 1 (s.b.do_ ⟨1,1,0,0, []⟩).1.diary).getLast? = some x:=hx
      rw [hE1,List.getLast?_concat] at hx
      injection hx with hx
      rw [←hx];exact hnc
     ·show (t10 (s.b.do_ ⟨1,1,0,0, []⟩).1).head=(t10 (s.b.do_ ⟨1,1,0,0, []⟩).1).used
      omega
     ·show s.came=(t10 (s.b.do_ ⟨1,1,0,0, []⟩).1).head
      omega
    have hot:=hother _ hI' rfl c3 hnow.2.2.1 (by show (t10 s.b).used≤(t10 (s.b.do_ ⟨1,1,0,0, []⟩).1).used;omega)
    refine ⟨hI',by show (s.b.do_ _).1.now≤_;omega,Nat.le_refl _, ?_, ?_,hot.1,hot.2⟩
    ·unfold muT
     simp only [c2,v3,v4,t1,r,v1,v6]
     simp only [Option.isSome_some,Option.isSome_none,if_true,Bool.false_eq_true,if_false]
     repeat' split
     all_goals omega
    ·intro _ hen
     unfold en1 at hen
     unfold muT
     simp only [c2,v3,v4,t1,r,v1,v6]
     simp only [Option.isSome_some,Option.isSome_none,if_true,Bool.false_eq_true,if_false]
     repeat' split
     all_goals omega
  | false=>
   obtain ⟨u1,u2,u3,u4,u5,u6⟩:=t5 rfl
   rw [if_neg (by simp)] at t1 t3
   have hE1:ents 1 (s.b.do_ ⟨1,1,0,0, []⟩).1.diary=T ++ [e]:=by rw [t3,q1]
   have hI':HI want { s with b:=(s.b.do_ ⟨1,1,0,0, []⟩).1 }:=by
    refine ⟨c1,hG, ?_⟩
    rcases q5 with ⟨w1,w2,w3⟩|⟨w1,w2,w3⟩
    ·exact .recv T e t1 u1 (by rw [←w1];exact u2) hE1 (by rw [←u4] at q2;exact q2) w2 q3 q4 (by show (t10 (s.b.do_ ⟨1,1,0,0, []⟩).1).head=(t10 (s.b.do_ ⟨1,1,0,0, []⟩).1).used;omega) (by show s.came=(t10 (s.b.do_ ⟨1,1,0,0, []⟩).1).head;omega) u5
    ·exact .rel T e t1 u1 (by rw [←w1];exact u2) hE1 (by rw [←u4] at q2;exact q2) w2 q3 q4 (by show (t10 (s.b.do_ ⟨1,1,0,0, []⟩).1).head=(t10 (s.b.do_ ⟨1,1,0,0, []⟩).1).used+1;omega) (by show s.came=(t10 (s.b.do_ ⟨1,1,0,0, []⟩).1).head;omega) u5
   have hot:=hother _ hI' rfl c3 hnow.2.2.1 (by show (t10 s.b).used≤(t10 (s.b.do_ ⟨1,1,0,0, []⟩).1).used;omega)
   refine ⟨hI',by show (s.b.do_ _).1.now≤_;omega,Nat.le_refl _, ?_, ?_,hot.1,hot.2⟩
   ·unfold muT
    rcases q5 with ⟨w1,w2,w3⟩|⟨w1,w2,w3⟩
    ·simp only [c2,u2,u3,u4,t1,r,w1]
     simp only [Option.isSome_some,Option.isSome_none,if_true,Bool.false_eq_true,if_false]
     split
     ·have:=u6 (.inr (by omega));omega
     ·omega
    ·have:=u6 (.inl w1)
     simp only [c2,u2,u3,u4,t1,r,w1]
     simp only [Option.isSome_some,Option.isSome_none,if_true,Bool.false_eq_true,if_false]
     omega
   ·intro _ hen
    unfold en1 at hen
    unfold muT
    rcases q5 with ⟨w1,w2,w3⟩|⟨w1,w2,w3⟩
    ·have:=u6 (.inr (by omega))
     simp only [c2,u2,u3,u4,t1,r,w1]
     simp only [Option.isSome_some,Option.isSome_none,if_true,Bool.false_eq_true,if_false]
     split<;>omega
    ·have:=u6 (.inl w1)
     simp only [c2,u2,u3,u4,t1,r,w1]
     simp only [Option.isSome_some,Option.isSome_none,if_true,Bool.false_eq_true,if_false]
     omega
 cases h.tak with
 | recv T e a b c d e' f g i j k l=>exact hrun a l T e d e' g i (.inl ⟨c,f,j⟩) k
 | rel T e a b c d e' f g i j k l=>exact hrun a l T e d e' g i (.inr ⟨c,f,j⟩) k
 | idle a b c d e f g=>
  by_cases hlt:s.came<want.length
  ·have hst:hstep want s ⟨1,false⟩= { s with b:=(s.b.do_ ⟨4,1,0,0, []⟩).1 }:=by
    have htk:=h.tak.takes
    unfold hstep takenB
    rw [if_neg (by simp),if_neg (by simp),if_neg (by show ¬(s.b.cor 1).runs.isSome=true;rw [a];simp),if_neg (by simp),if_pos ⟨rfl,hlt⟩,htk]
    cases hgl:(ents 1 s.b.diary).getLast? with
    | none=>rfl
    | some x=>simp only;rw [if_neg (d x hgl)];rfl
   obtain ⟨c1,c2,c3,c4,c5⟩:=h.calm.recv hN a b
   have hnow:=(Bd.do_now s.b ⟨4,1,0,0, []⟩)
   have hE1:ents 1 (s.b.do_ ⟨4,1,0,0, []⟩).1.diary=ents 1 s.b.diary ++ [⟨1,0,2,s.b.now+1,0,0, [],0⟩]:=by
    rw [c5,ents_append,ents_one,if_pos rfl]
   have hE0:ents 0 (s.b.do_ ⟨4,1,0,0, []⟩).1.diary=ents 0 s.b.diary:=by
    rw [c5,ents_append,ents_one,if_neg (by simp),List.append_nil]
   rw [hst]
   have ht:(t10 (s.b.do_ ⟨4,1,0,0, []⟩).1).head=(t10 s.b).head∧(t10 (s.b.do_ ⟨4,1,0,0, []⟩).1).used=(t10 s.b).used∧(t10 (s.b.do_ ⟨4,1,0,0, []⟩).1).back=false∧(t10 (s.b.do_ ⟨4,1,0,0, []⟩).1).pc=1∧(t10 (s.b.do_ ⟨4,1,0,0, []⟩).1).tab=(t10 s.b).tab:=by rw [c4];exact ⟨rfl,rfl,rfl,rfl,rfl⟩
   have hI':HI want { s with b:=(s.b.do_ ⟨4,1,0,0, []⟩).1 }:=by
    refine ⟨c1,h.giv.same c2 hE0 rfl, .recv _ _ c3 (by show (t10 (s.b.do_ ⟨4,1,0,0, []⟩).1).pc≠0;omega) ht.2.2.1 hE1 (by show TOk _ (t10 (s.b.do_ ⟨4,1,0,0, []⟩).1).head;rw [ht.1];exact c) rfl rfl rfl (by show (t10 (s.b.do_ ⟨4,1,0,0, []⟩).1).head=(t10 (s.b.do_ ⟨4,1,0,0, []⟩).1).used;omega) (by show s.came=(t10 (s.b.do_ ⟨4,1,0,0, []⟩).1).head;omega) (fun j=>by show (t10 (s.b.do_ ⟨4,1,0,0, []⟩).1).tab.held.getD j false=false;rw [ht.2.2.2.2];exact g j)⟩
   have hot:=hother _ hI' rfl c2 hnow.2.2.1 (by show (t10 s.b).used≤(t10 (s.b.do_ ⟨4,1,0,0, []⟩).1).used;omega)
   have htr:trank (t10 (s.b.do_ ⟨4,1,0,0, []⟩).1)=15:=by rw [c4];simp [trank,Tak.begin_]
   have hg:g01 (s.b.do_ ⟨4,1,0,0, []⟩).1=g01 s.b:=by show ((s.b.do_ ⟨4,1,0,0, []⟩).1.cor 0).giv 1=_;rw [c2]
   refine ⟨hI',by show (s.b.do_ _).1.now≤_;omega,Nat.le_refl _, ?_, ?_,hot.1,hot.2⟩
   ·unfold muT
    simp only [hg,ht.1,ht.2.1,ht.2.2.1,c3,a,htr]
    simp only [Option.isSome_some,Option.isSome_none,if_true,Bool.false_eq_true,if_false]
    repeat' split
    all_goals omega
   ·intro _ hen
    unfold en1 at hen
    unfold muT
    simp only [hg,ht.1,ht.2.1,ht.2.2.1,c3,a,htr]
    simp only [Option.isSome_some,Option.isSome_none,if_true,Bool.false_eq_true,if_false]
    repeat' split
    all_goals omega
  ·have hst:hstep want s ⟨1,false⟩=s:=by
    unfold hstep
    rw [if_neg (by simp),if_neg (by simp),if_neg (by show ¬(s.b.cor 1).runs.isSome=true;rw [a];simp),if_neg (by simp),if_neg (fun q=>hlt q.2)]
   rw [hst]
   exact ⟨h,by omega,Nat.le_refl _,Nat.le_refl _,fun q=>absurd q hlt,Nat.le_refl _,id⟩
 | got T e a b c d e' f g i j k=>
  have hld:=h.load c d e' f
  have hlt:s.came<want.length:=by omega
  have hst:hstep want s ⟨1,false⟩= { s with b:=(s.b.do_ ⟨5,1,0,e.handle, []⟩).1,came:=s.came+1 }:=by
   have htk:=h.tak.takes
   unfold hstep takenB
   rw [if_neg (by simp),if_neg (by simp),if_neg (by show ¬(s.b.cor 1).runs.isSome=true;rw [a];simp),if_neg (by simp),if_pos ⟨rfl,hlt⟩,htk,c,List.getLast?_concat]
   simp only
   rw [if_pos e']
  obtain ⟨c1,c2,c3,c4,c5⟩:=h.calm.release hN a b e.handle g
  have hnow:=(Bd.do_now s.b ⟨5,1,0,e.handle, []⟩)
  have hE1:ents 1 (s.b.do_ ⟨5,1,0,e.handle, []⟩).1.diary=ents 1 s.b.diary ++ [⟨1,0,3,s.b.now+1,0,0, [],e.handle⟩]:=by
   rw [c5,ents_append,ents_one,if_pos rfl]
  have hE0:ents 0 (s.b.do_ ⟨5,1,0,e.handle, []⟩).1.diary=ents 0 s.b.diary:=by
   rw [c5,ents_append,ents_one,if_neg (by simp),List.append_nil]
  rw [hst]
  have ht:(t10 (s.b.do_ ⟨5,1,0,e.handle, []⟩).1).head=(t10 s.b).head∧(t10 (s.b.do_ ⟨5,1,0,e.handle, []⟩).1).used=(t10 s.b).used∧(t10 (s.b.do_ ⟨5,1,0,e.handle, []⟩).1).back=true∧(t10 (s.b.do_ ⟨5,1,0,e.handle, []⟩).1).pc=1∧(t10 (s.b.do_ ⟨5,1,0,e.handle, []⟩).1).tab=(t10 s.b).tab.hold (e.handle%64).toNat false:=by rw [c4];exact ⟨rfl,rfl,rfl,rfl,rfl⟩
  have hT1:TOk (ents 1 s.b.diary) (t10 s.b).head:=by
   rw [c,j]
   have:=d.push (e:=e) (.inl e'.1) f e'.2.2
   rw [if_pos e'] at this
   exact this
  obtain ⟨L,P,C,G,h0,hI,hD,hJ,hDg⟩:=h.calm.ch
  have htl:(t10 s.b).tab.held.length=64:=(hI.mach 1 0 (by omega) (by omega) (by omega) (h.calm.up 1 (by omega))).tak.tab.lh
  have hI':HI want { s with b:=(s.b.do_ ⟨5,1,0,e.handle, []⟩).1,came:=s.came+1 }:=by
   refine ⟨c1,h.giv.same c2 hE0 rfl, .rel _ _ c3 (by show (t10 (s.b.do_ ⟨5,1,0,e.handle, []⟩).1).pc≠0;omega) ht.2.2.1 hE1 (by show TOk _ (t10 (s.b.do_ ⟨5,1,0,e.handle, []⟩).1).head;rw [ht.1];exact hT1) rfl rfl rfl (by show (t10 (s.b.do_ ⟨5,1,0,e.handle, []⟩).1).head=(t10 (s.b.do_ ⟨5,1,0,e.handle, []⟩).1).used+1;omega) (by show s.came+1=(t10 (s.b.do_ ⟨5,1,0,e.handle, []⟩).1).head;omega) (fun m=> ?_)⟩
   show (t10 (s.b.do_ ⟨5,1,0,e.handle, []⟩).1).tab.held.getD m false=false
   rw [ht.2.2.2.2]
   show ((t10 s.b).tab.held.set (e.handle%64).toNat false).getD m false=false
   rw [getD_set_bool _ _ _ _ (by omega)]
   split
   ·rfl
   ·rename_i q
    cases hm:(t10 s.b).tab.held.getD m false with
    | false=>rfl
    | true=>exact absurd (i m hm) q
  have hot:=hother _ hI' rfl c2 hnow.2.2.1 (by show (t10 s.b).used≤(t10 (s.b.do_ ⟨5,1,0,e.handle, []⟩).1).used;omega)
  have htr:trank (t10 (s.b.do_ ⟨5,1,0,e.handle, []⟩).1)=24:=by rw [c4];simp [trank,Tak.begin_]
  have hg:g01 (s.b.do_ ⟨5,1,0,e.handle, []⟩).1=g01 s.b:=by show ((s.b.do_ ⟨5,1,0,e.handle, []⟩).1.cor 0).giv 1=_;rw [c2]
  refine ⟨hI',by show (s.b.do_ _).1.now≤_;omega,by show s.came≤s.came+1;omega, ?_, ?_,hot.1,hot.2⟩
  ·unfold muT
   simp only [hg,ht.1,ht.2.1,ht.2.2.1,c3,a,htr]
   simp only [Option.isSome_some,Option.isSome_none,if_true,Bool.false_eq_true,if_false]
   repeat' split
   all_goals omega
  ·intro _ hen
   unfold muT
   simp only [hg,ht.1,ht.2.1,ht.2.2.1,c3,a,htr]
   simp only [Option.isSome_some,Option.isSome_none,if_true,Bool.false_eq_true,if_false]
   repeat' split
   all_goals omega
end
section
variable {want:Loads} {s:HS}
theorem HI.round (h:HI want s) (h8:∀l∈want,l.length≤8∧wordsOk l=true) (hN:s.b.now<40000) (x:Mv):HI want (hstep want s x)∧(hstep want s x).b.now≤s.b.now+1∧s.came≤(hstep want s x).came:=by
 by_cases hc:x.core<0∨1<x.core
 ·have e:hstep want s x=s:=by unfold hstep;rw [if_pos hc]
  rw [e]
  exact ⟨h,by omega,Nat.le_refl _⟩
 by_cases hd:x.drain=true
 ·have e:hstep want s x= { s with b:=(s.b.do_ ⟨2,x.core,0,0, []⟩).1 }:=by unfold hstep;rw [if_neg hc,if_pos hd]
  rw [e]
  have hn:=h.calm.n2
  obtain ⟨c,hcc⟩:∃c:Nat,x.core=(c:Int):=⟨x.core.toNat,by omega⟩
  rw [hcc]
  obtain ⟨c1,c2,c3⟩:=h.calm.drain hN c (by omega)
  have hnow:=Bd.do_now s.b ⟨2,c,0,0, []⟩
  refine ⟨⟨c1,h.giv.same (by show (s.b.do_ ⟨2,c,0,0, []⟩).1.cor 0=_;rw [c2]) (by show ents 0 (s.b.do_ ⟨2,c,0,0, []⟩).1.diary=_;rw [c3]) rfl,h.tak.same (by show (s.b.do_ ⟨2,c,0,0, []⟩).1.cor 1=_;rw [c2]) (by show ents 1 (s.b.do_ ⟨2,c,0,0, []⟩).1.diary=_;rw [c3]) rfl⟩,by show (s.b.do_ _).1.now≤_;omega,Nat.le_refl _⟩
 ·obtain ⟨core,drain⟩:=x
  simp only at hc hd
  have hd:drain=false:=by simpa using hd
  subst hd
  have hcc:core=0∨core=1:=by omega
  rcases hcc with rfl|rfl
  ·obtain ⟨a,b,c,_⟩:=h.turn0 h8 hN
   exact ⟨a,b,by omega⟩
  ·obtain ⟨a,b,c,_⟩:=h.turn1 h8 hN
   exact ⟨a,b,c⟩
theorem came_le (hc:s.came≤want.length) (x:Mv):(hstep want s x).came≤want.length:=by
 unfold hstep
 repeat' split
 all_goals first|exact hc|skip
 rename_i h
 show s.came+(takenB s.b).2≤_
 have:(takenB s.b).2≤1:=by
  unfold takenB
  repeat' split
  all_goals simp
 omega
theorem HI.pair (h:HI want s) (h8:∀l∈want,l.length≤8∧wordsOk l=true) (hN:s.b.now<39990) (hc:s.came<want.length):
  muG want.length (hstep want (hstep want s ⟨0,false⟩) ⟨1,false⟩)+muT want.length (hstep want (hstep want s ⟨0,false⟩) ⟨1,false⟩)<muG want.length s+muT want.length s:=by
 obtain ⟨a1,a2,a3,a4,a5,a6,a7⟩:=h.turn0 h8 (by omega)
 obtain ⟨b1,b2,b3,b4,b5,b6,b7⟩:=a1.turn1 h8 (by omega)
 rcases h.goes hc with q|q
 ·have:=a5 q;omega
 ·have:=b5 (by omega) (a7 q);omega
theorem HI.mu_le (h:HI want s):muG want.length s+muT want.length s≤56*want.length+55:=by
 have h1:=h.grank_le
 have h2:trank (t10 s.b)≤24:=by
  cases hb:(t10 s.b).back with
  | false=>have:=h.trank_le hb;omega
  | true=>
   unfold trank;rw [if_pos hb];repeat' split
   all_goals omega
 unfold muG muT
 repeat' split
 all_goals omega
end
def hmove (moves:List Mv) (n:Nat):Mv:=if n<moves.length then moves.getD n ⟨0,false⟩ else ⟨((n%2:Nat):Int),false⟩
def hrun (want:Loads) (moves:List Mv) (s:HS):Nat→HS
 | 0=>s
 | n+1=>hstep want (hrun want moves s n) (hmove moves n)
theorem HI.first {n r m:Nat} {want:Loads} (h2:2≤n) (h8:n≤8) (hr1:1≤r) (hr8:r≤8):HI want ⟨Bd.new n r m,0,0⟩:=by
 have hup:∀c,(Bd.new n r m).upb c=true:=fun c=>by
  unfold Bd.upb Bd.new Gates.newGt
  simp only [List.getD_eq_getElem?_getD,List.getElem?_replicate]
  split<;>rfl
 have hep:∀c,(Bd.new n r m).ep c=0:=fun c=>by
  unfold Bd.ep Bd.new Gates.newGt
  simp only [List.getD_eq_getElem?_getD,List.getElem?_replicate]
  split<;>rfl
 refine ⟨⟨⟨[],Good.first n r m h2 h8 hr1 (by omega),fun x hx=>(by cases hx)⟩,hep,fun c _=>hup c,hr8, ?_, ?_, ?_, ?_⟩, .inl ⟨rfl,rfl, .nil, .inl rfl⟩, .idle rfl rfl ⟨fun e he=>(by cases he),rfl⟩ (fun e he=>(by cases he)) rfl rfl (fun j=> ?_)⟩
 ·show (0:Nat)≠4;decide
 ·show (0:Nat)≠4;decide
 ·exact fun v _=>Nat.zero_le _
 ·exact fun v _=>Nat.zero_le _
 ·show (List.replicate 64 false).getD j false=false
  simp only [List.getD_eq_getElem?_getD,List.getElem?_replicate]
  split<;>rfl
theorem hrun_all {want:Loads} (h8:∀l∈want,l.length≤8∧wordsOk l=true) (moves:List Mv) (s:HS) (h:HI want s) (hn:s.b.now=0) (hc:s.came=0):∀k,k≤3000→HI want (hrun want moves s k)∧(hrun want moves s k).b.now≤k∧(hrun want moves s k).came≤want.length:=by
 intro k
 induction k with
 | zero=>intro _;exact ⟨h,by show s.b.now≤0;omega,by show s.came≤_;omega⟩
 | succ k ih=>
  intro hk
  obtain ⟨a,b,c⟩:=ih (by omega)
  obtain ⟨a',b',c'⟩:=a.round h8 (by omega) (hmove moves k)
  exact ⟨a',by show (hstep want _ _).b.now≤_;omega,came_le c _⟩
theorem head_law {want:Loads} (h8:∀l∈want,l.length≤8∧wordsOk l=true) (hT:want.length≤12) (moves:List Mv) (hm:moves.length≤200) (s:HS) (h:HI want s) (hn:s.b.now=0) (hc:s.came=0):(hrun want moves s 3000).came=want.length:=by
 have key:∀k,k≤1400→(hrun want moves s (200+2*k)).came=want.length∨muG want.length (hrun want moves s (200+2*k))+muT want.length (hrun want moves s (200+2*k))+k≤56*want.length+55:=by
  intro k
  induction k with
  | zero=>
   intro _
   exact .inr (hrun_all h8 moves s h hn hc 200 (by omega)).1.mu_le
  | succ k ih=>
   intro hk
   obtain ⟨a,b,c⟩:=hrun_all h8 moves s h hn hc (200+2*k) (by omega)
   have e0:hmove moves (200+2*k)=⟨0,false⟩:=by
    unfold hmove
    rw [if_neg (by omega)]
    have:(200+2*k)%2=0:=by omega
    rw [this];rfl
   have e1:hmove moves (200+2*k+1)=⟨1,false⟩:=by
    unfold hmove
    rw [if_neg (by omega)]
    have:(200+2*k+1)%2=1:=by omega
    rw [this];rfl
   have e2:hrun want moves s (200+2*(k+1))=hstep want (hstep want (hrun want moves s (200+2*k)) ⟨0,false⟩) ⟨1,false⟩:=by
    show hstep want (hstep want (hrun want moves s (200+2*k)) (hmove moves (200+2*k))) (hmove moves (200+2*k+1))=_
    rw [e0,e1]
   obtain ⟨_,_,c2⟩:=hrun_all h8 moves s h hn hc (200+2*(k+1)) (by omega)
   by_cases hd:(hrun want moves s (200+2*k)).came<want.length
   ·have hp:=a.pair h8 (by omega) hd
    rcases ih (by omega) with q|q
    ·omega
    ·rw [←e2] at hp
     exact .inr (by omega)
   ·obtain ⟨a0,b0,c0⟩:=a.round h8 (by omega) ⟨0,false⟩
    obtain ⟨a1,b1,c1⟩:=a0.round h8 (by omega) ⟨1,false⟩
    rw [←e2] at c1
    exact .inl (by omega)
 have:=key 1400 (by omega)
 have e:200+2*1400=3000:=rfl
 rw [e] at this
 rcases this with q|q
 ·exact q
 ·omega
theorem HI.taken {want:Loads} {s:HS} (h:HI want s) (hr:(s.b.cor 1).runs=none):(∀e,(takes s.b).getLast? = some e→e.came→e.load=want.getD s.came []∧s.came<want.length):=by
 intro e he hc
 rw [h.tak.takes] at he
 cases h.tak with
 | idle a b c d _ _ _=>exact absurd hc (d e he)
 | got T x a b c d e' f g i j k=>
  rw [c,List.getLast?_concat] at he
  injection he with he
  subst he
  rw [k]
  exact h.load c d e' f
 | recv T x a=>rw [hr] at a;cases a
 | rel T x a=>rw [hr] at a;cases a
end Go.Proofs.YtaaffebnajjfhaaGreatDoor.T
