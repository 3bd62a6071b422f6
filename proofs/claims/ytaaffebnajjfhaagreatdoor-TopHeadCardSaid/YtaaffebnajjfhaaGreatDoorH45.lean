/- Texts of this proof, merged: HeadF, HeadG, HeadH. -/
import Derived.Test.YtaaffebnajjfhaaGreatDoorH44
namespace Go.Proofs.YtaaffebnajjfhaaGreatDoor.T
set_option linter.unusedVariables false
set_option linter.unusedSimpArgs false
set_option linter.unusedSectionVars false
open Go.RowKit
inductive SOk (want:Loads):List Ent→Nat→Prop where
 | nil:SOk want [] 0
 | ok {S:List Ent} {k:Nat} {e:Ent}:SOk want S k→e.kind=1→e.peer=1→e.fin≠0→e.err=0→e.load=want.getD k []→k<want.length→SOk want (S ++ [e]) (k+1)
 | no {S:List Ent} {k:Nat} {e:Ent}:SOk want S k→e.kind=1→e.peer=1→e.fin≠0→e.err≠0→e.err≠8→SOk want (S ++ [e]) k
structure TOk (T:List Ent) (k:Nat):Prop where
 all:∀e∈T,(e.kind=2∨e.kind=3)∧e.peer=0∧e.fin≠0
 came:(T.filter fun e=>decide e.came).length=k
theorem SOk.le {want:Loads} {S:List Ent} {k:Nat} (h:SOk want S k):k≤want.length:=by
 induction h with
 | nil=>omega
 | ok _ _ _ _ _ _ hk ih=>omega
 | no _ _ _ _ _ _ ih=>exact ih
theorem SOk.sent {want:Loads} {S:List Ent} {k:Nat} (h:SOk want S k):sentOf 1 0 (S.map fun e=>e.rec_ 0)=(want.take k, []):=by
 induction h with
 | nil=>rfl
 | @ok S k e _ h1 h2 h3 h4 h5 hk ih=>
  rw [List.map_append,List.map_cons,List.map_nil,sentOf_push,ih]
  unfold sentF
  rw [if_pos ⟨rfl,h1,h2⟩,if_pos ⟨by simp [Ent.rec_,h3],h4⟩]
  show (want.take k ++ [e.load], [])=_
  rw [h5,List.take_succ_eq_append_getElem hk,List.getD_eq_getElem?_getD,List.getElem?_eq_getElem hk]
  rfl
 | @no S k e _ h1 h2 h3 h4 h5 ih=>
  rw [List.map_append,List.map_cons,List.map_nil,sentOf_push,ih]
  unfold sentF
  rw [if_pos ⟨rfl,h1,h2⟩,if_neg (fun q=>h4 q.2),if_neg]
  rintro (q|q)
  ·simp [Ent.rec_,h3] at q
  ·exact h5 q
theorem SOk.count {want:Loads} {S:List Ent} {k:Nat} (h:SOk want S k):(S.filter fun e=>decide (e.kind=1∧e.peer=1∧e.fin≠0∧e.err=0)).length=k:=by
 induction h with
 | nil=>rfl
 | @ok S k e _ h1 h2 h3 h4 h5 hk ih=>
  rw [List.filter_append,List.length_append,ih]
  simp [h1,h2,h3,h4]
 | @no S k e _ h1 h2 h3 h4 h5 ih=>
  rw [List.filter_append,List.length_append,ih]
  simp [h1,h2,h3,h4]
theorem okCount_ents (b:Bd):okCount b=((ents 0 b.diary).filter fun e=>decide (e.kind=1∧e.peer=1∧e.fin≠0∧e.err=0)).length:=by
 unfold okCount ents
 rw [List.filter_filter]
 congr 2
 funext e
 rw [Bool.eq_iff_iff]
 simp only [decide_eq_true_eq,Bool.and_eq_true]
 omega
theorem takes_ents (b:Bd) (h:∀e∈ents 1 b.diary,(e.kind=2∨e.kind=3)∧e.peer=0):takes b=ents 1 b.diary:=by
 have e1:takes b=(ents 1 b.diary).filter fun e=>decide ((e.kind=2∨e.kind=3)∧e.peer=0):=by
  unfold takes ents
  rw [List.filter_filter]
  congr 1
  funext e
  rw [Bool.eq_iff_iff]
  simp only [decide_eq_true_eq,Bool.and_eq_true]
  omega
 rw [e1,List.filter_eq_self]
 intro e he
 simpa using h e he
theorem gotOf_ents (T:List Ent) (h:∀e∈T,e.peer=0):gotOf 0 0 (T.map fun e=>e.rec_ 0)=(T.filter fun e=>decide e.came).map (·.load):=by
 unfold gotOf
 rw [List.filter_map,List.map_map]
 have e1:(T.filter ((fun x=>decide (Rec.isGot x 0 0)) ∘ fun e=>e.rec_ 0))=T.filter fun e=>decide e.came:=by
  apply List.filter_congr
  intro e he
  have hp:=h e he
  show decide ((e.rec_ 0).isGot 0 0)=decide e.came
  refine decide_eq_decide.2 ⟨?_, ?_⟩
  ·rintro ⟨_,q1,_,q2,q3⟩;exact ⟨q1,q3,by simpa [Ent.rec_] using q2⟩
  ·rintro ⟨q1,q2,q3⟩;exact ⟨rfl,q1,hp,by simpa [Ent.rec_] using q3,q2⟩
 rw [e1]
 rfl
theorem TOk.push {T:List Ent} {k:Nat} {e:Ent} (h:TOk T k) (h1:e.kind=2∨e.kind=3) (h2:e.peer=0) (h3:e.fin≠0):TOk (T ++ [e]) (if e.came then k+1 else k):=by
 refine ⟨fun x hx=> ?_, ?_⟩
 ·rcases List.mem_append.1 hx with hx|hx
  ·exact h.all x hx
  ·rw [List.mem_singleton.1 hx];exact ⟨h1,h2,h3⟩
 ·rw [List.filter_append,List.length_append,h.came]
  by_cases hc:e.came
  ·rw [if_pos hc];simp [hc]
  ·rw [if_neg hc];simp [hc]
def GivI (want:Loads) (s:HS):Prop:=
 (s.b.cor 0).runs=none∧(g01 s.b).pc=0∧SOk want (ents 0 s.b.diary) (g01 s.b).next∧((g01 s.b).next=s.next∨(g01 s.b).next=s.next+1)∨
 (s.b.cor 0).runs=some (.giv 1)∧(g01 s.b).pc≠0∧s.next<want.length∧(g01 s.b).next=s.next∧∃S e,ents 0 s.b.diary=S ++ [e]∧SOk want S (g01 s.b).next∧e.kind=1∧e.peer=1∧e.fin=0∧e.err=0∧e.load=want.getD s.next []
inductive TakI (s:HS):Prop where
 | idle:(s.b.cor 1).runs=none→(t10 s.b).pc=0→TOk (ents 1 s.b.diary) (t10 s.b).head→(∀e,(ents 1 s.b.diary).getLast? = some e→ ¬e.came)→(t10 s.b).head=(t10 s.b).used→s.came=(t10 s.b).head→(∀j,(t10 s.b).tab.held.getD j false=false)→TakI s
 | got (T:List Ent) (e:Ent):(s.b.cor 1).runs=none→(t10 s.b).pc=0→ents 1 s.b.diary=T ++ [e]→TOk T (t10 s.b).used→e.came→e.peer=0→Grants.good (t10 s.b).tab e.handle→(∀j,(t10 s.b).tab.held.getD j false=true→j=(e.handle%64).toNat)→(t10 s.b).head=(t10 s.b).used+1→s.came=(t10 s.b).used→TakI s
 | recv (T:List Ent) (e:Ent):(s.b.cor 1).runs=some (.tak 0)→(t10 s.b).pc≠0→(t10 s.b).back=false→ents 1 s.b.diary=T ++ [e]→TOk T (t10 s.b).head→e.kind=2→e.peer=0→e.fin=0→(t10 s.b).head=(t10 s.b).used→s.came=(t10 s.b).head→(∀j,(t10 s.b).tab.held.getD j false=false)→TakI s
 | rel (T:List Ent) (e:Ent):(s.b.cor 1).runs=some (.tak 0)→(t10 s.b).pc≠0→(t10 s.b).back=true→ents 1 s.b.diary=T ++ [e]→TOk T (t10 s.b).head→e.kind=3→e.peer=0→e.fin=0→(t10 s.b).head=(t10 s.b).used+1→s.came=(t10 s.b).head→(∀j,(t10 s.b).tab.held.getD j false=false)→TakI s
structure HI (want:Loads) (s:HS):Prop where
 calm:Calm s.b
 giv:GivI want s
 tak:TakI s
theorem holds_none {t:Tak} (h:∀j,t.tab.held.getD j false=false):t.holds= []:=by
 unfold Tak.holds
 rw [List.filter_eq_nil_iff]
 intro j _
 rw [h j];simp
theorem nodup_one {l:List Nat} (h:l.Nodup) {k:Nat} (hk:∀x∈l,x=k):l.length≤1:=by
 match l with
 | []=>simp
 | [_]=>simp
 | x :: y :: r=>
  have h1:=hk x (by simp)
  have h2:=hk y (by simp)
  rw [h1,h2] at h
  simp at h
section
variable {want:Loads} {s:HS}
theorem HI.slots (h:HI want s) (G:Gho) (hJ:Jn s.b.now s.b.ring 0 0 true true (g01 s.b) (t10 s.b) (s.b.av 0 1) (s.b.bv 0 1) G):G.ulog.length+G.H.length≤G.hd:=by
 obtain ⟨z,hz⟩:=last_of hJ.neB
 have hti:=hJ.ti rfl z hz
 obtain ⟨k0,p2,p3,p14⟩:=zero_t hJ
 by_cases hin:(t10 s.b).inn 0
 ·have hi:=hti.inn hin
  have hH:=hi.H.length_eq
  have hu:=hi.used
  have hh:=hi.head
  rw [List.length_append] at hH
  cases h.tak with
  | idle r p _ _ q _ hd=>
   rw [holds_none hd] at hH
   simp [Tak.rel,p] at hH
   simp [Tak.told,p] at hu
   simp only [hH,List.length_nil]
   omega
  | got T e r p _ _ _ _ _ hd q _=>
   have h1:(t10 s.b).holds.length≤1:=nodup_one (holds_nodup _) (fun x hx=>hd x ((holds_mem _ x).1 hx).2)
   simp [Tak.rel,p] at hH
   simp [Tak.told,p] at hu
   omega
  | recv T e r p bk _ _ _ _ _ q _ hd=>
   rw [holds_none hd] at hH
   simp [Tak.rel,bk] at hH
   simp [Tak.told,bk] at hu
   simp only [hH,List.length_nil]
   omega
  | rel T e r p bk _ _ _ _ _ q _ hd=>
   rw [holds_none hd] at hH
   simp only [List.length_nil,Nat.zero_add] at hH
   unfold Tak.rel at hH
   unfold Tak.told at hu
   split at hH<;>split at hu<;>simp only [List.length_cons,List.length_nil] at hH<;>omega
 ·obtain ⟨o1,o2,o3⟩:=hti.out0 hin
  rw [o1,o2]
  simp
theorem HI.recsG (h:HI want s) {L:List Nat} {P:Nat→List Rec} {C:Nat→Option Rec} (h0:∀x∈L,x=0) (hI:BI s.b P C) (hD:DR s.b L P C):
  ((s.b.cor 0).runs=none∧C 0=none∧sentOf 1 0 (P 0)=(want.take (g01 s.b).next, [])∧(g01 s.b).next≤want.length)∨
  ∃x,C 0=some x∧sentOf 1 0 (P 0)=(want.take (g01 s.b).next, [])∧x.load=want.getD (g01 s.b).next []∧(g01 s.b).next<want.length:=by
 have hn:=h.calm.n2
 have hr:=hD.recs 0 (by omega)
 rw [recsOf_ents 0 _ _ hD.len h0] at hr
 have hran:=hI.ran 0 (by omega)
 unfold Bd.Ran at hran
 rcases h.giv with ⟨r,p,q,_⟩|⟨r,p,lt,e1,S,e,q1,q2,q3,q4,q5,q6,q7⟩
 ·rw [r] at hran
  have hran:C 0=none:=hran
  rw [hran] at hr
  simp only [Option.toList_none,List.append_nil] at hr
  exact .inl ⟨r,hran,by rw [←hr];exact q.sent,q.le⟩
 ·rw [r] at hran
  obtain ⟨_,_,_,_,x,hx,_⟩:=hran
  rw [hx,q1,List.map_append] at hr
  simp only [Option.toList_some,List.map_cons,List.map_nil] at hr
  obtain ⟨r1,r2⟩:=List.append_inj' hr rfl
  have r2:e.rec_ 0=x:=by simpa using r2
  exact .inr ⟨x,hx,by rw [←r1];exact q2.sent,by rw [←r2,e1, ←q7];rfl,by omega⟩
theorem HI.log (h:HI want s) {L:List Nat} {P:Nat→List Rec} {C:Nat→Option Rec} {G:Gho} (h0:∀x∈L,x=0) (hI:BI s.b P C) (hD:DR s.b L P C) (hDg:Dg 0 1 0 0 true true (g01 s.b) (t10 s.b) G (P 0) (C 0) (P 1) (C 1)) (k:Nat) (hk:k<G.log.length):(loadsOf G.log).getD k []=want.getD k []:=by
 obtain ⟨n,hdl, -⟩:=hDg.now
 have hs:=hdl.sent
 have hle:=hdl.le
 have hm:=hdl.more
 have hkl:k<(loadsOf G.log).length:=by rw [loadsOf_len];exact hk
 have hpre:∀j,j<n→(loadsOf G.log).getD j []=(want.take (g01 s.b).next).getD j []:=by
  intro j hj
  rcases h.recsG h0 hI hD with ⟨_,_,q,_⟩|⟨x,_,q,_,_⟩ <;>
   (rw [q] at hs
    simp only at hs
    rw [hs,List.getD_eq_getElem?_getD,List.getD_eq_getElem?_getD,List.getElem?_take,if_pos hj])
 have htk:∀j,j<(want.take (g01 s.b).next).length→(want.take (g01 s.b).next).getD j []=want.getD j []:=by
  intro j hj
  rw [List.length_take] at hj
  rw [List.getD_eq_getElem?_getD,List.getD_eq_getElem?_getD,List.getElem?_take,if_pos (by omega)]
 have hln:n=(want.take (g01 s.b).next).length:=by
  rcases h.recsG h0 hI hD with ⟨_,_,q,_⟩|⟨x,_,q,_,_⟩ <;>
   (rw [q] at hs
    simp only at hs
    rw [hs,List.length_take]
    omega)
 by_cases hkn:k<n
 ·rw [hpre k hkn,htk k (by omega)]
 ·rcases h.recsG h0 hI hD with ⟨_,hc,q,_⟩|⟨x,hc,q,hx,hlt⟩
  ·rw [hc,q] at hm
   simp [srOf] at hm
   omega
  ·rw [hc,q] at hm
   rw [List.length_take] at hln
   have hkn2:k=n:=by rcases hm with hm|hm<;>omega
   rcases hm with hm|⟨hm,hmem⟩
   ·omega
   ·subst hkn2
    simp only [List.nil_append,srOf] at hmem
    split at hmem
    ·rw [List.mem_singleton.1 hmem,hx]
     congr 1
     omega
    ·simp at hmem
theorem HI.log8 (h:HI want s) (h8:∀l∈want,l.length≤8) {L:List Nat} {P:Nat→List Rec} {C:Nat→Option Rec} {G:Gho} (h0:∀x∈L,x=0) (hI:BI s.b P C) (hD:DR s.b L P C) (hDg:Dg 0 1 0 0 true true (g01 s.b) (t10 s.b) G (P 0) (C 0) (P 1) (C 1)) (k:Nat) (hk:k<G.log.length):(G.log.getD k (0, [])).2.length≤8:=by
 have h1:=h.log h0 hI hD hDg k hk
 rw [loadsOf_get _ _ hk] at h1
 have h2:=congrArg List.length h1
 rw [List.length_map] at h2
 rw [h2,List.getD_eq_getElem?_getD]
 cases hg:want[k]? with
 | none=>simp
 | some l=>exact h8 l (List.mem_of_getElem? hg)
theorem HI.load (h:HI want s) {T:List Ent} {e:Ent} {k:Nat} (h1:ents 1 s.b.diary=T ++ [e]) (h2:TOk T k) (h3:e.came) (h4:e.peer=0):e.load=want.getD k []∧k<want.length:=by
 have hn:=h.calm.n2
 obtain ⟨L,hG,h0⟩:=h.calm.good
 have hpl:=(prefix_law hG (i:=0) (j:=1) (by omega) (by omega) (by omega) 0)
 obtain ⟨hb,hlen⟩:=hpl
 obtain ⟨P,C,hI,hD⟩:=hG
 rw [seenOf_recs 0 1 0 (by omega)] at hb
 simp only at hb
 rw [recsOf_ents 1 _ _ hlen h0,h1,gotOf_ents _ (by
  intro x hx
  rcases List.mem_append.1 hx with hx|hx
  ·exact (h2.all x hx).2.1
  ·rw [List.mem_singleton.1 hx];exact h4)] at hb
 have hlast:((T ++ [e]).filter fun e=>decide e.came)=(T.filter fun e=>decide e.came) ++ [e]:=by
  rw [List.filter_append]
  simp [h3]
 rw [hlast,List.map_append] at hb
 have hb:=hb k (by simp [h2.came])
 have hgk:((T.filter fun e=>decide e.came).map (·.load)++List.map (·.load) [e]).getD k []=e.load:=by
  have:k=((T.filter fun e=>decide e.came).map (·.load)).length:=by rw [List.length_map,h2.came]
  rw [this]
  exact getD_last _ _ _
 rw [hgk] at hb
 have hr:=hD.recs 0 (by omega)
 rcases h.recsG h0 hI hD with ⟨_,hc,q,hle⟩|⟨x,hc,q,hx,hlt⟩
 ·rw [hc] at hr
  simp only [Option.toList_none,List.append_nil] at hr
  rw [hr,q] at hb
  simp only [List.length_take] at hb
  split at hb
  ·rename_i hk
   refine ⟨?_,by omega⟩
   rw [hb,List.getD_eq_getElem?_getD,List.getD_eq_getElem?_getD,List.getElem?_take,if_pos (by omega)]
  ·simp at hb
 ·rw [hc] at hr
  simp only [Option.toList_some] at hr
  have hs2:(sentOf 1 0 (P 0 ++ [x])).1=want.take (g01 s.b).next∧∀y∈(sentOf 1 0 (P 0 ++ [x])).2,y=x.load:=by
   rw [sentOf_push,q]
   have hf:=(hI.fin 0 (by omega) x hc).1
   unfold sentF
   split
   ·rw [if_neg (fun r=>by rw [hf] at r;cases r.1),if_pos (.inl hf)]
    exact ⟨rfl,fun y hy=>by simpa using hy⟩
   ·exact ⟨rfl,fun y hy=>by simp at hy⟩
  rw [hr,hs2.1] at hb
  simp only [List.length_take] at hb
  split at hb
  ·rename_i hk
   refine ⟨?_,by omega⟩
   rw [hb,List.getD_eq_getElem?_getD,List.getD_eq_getElem?_getD,List.getElem?_take,if_pos (by omega)]
  ·rename_i hk
   have hk2:k=(g01 s.b).next:=by omega
   refine ⟨?_,by omega⟩
   rw [hs2.2 _ hb.2,hx,hk2]
end
section
variable {b:Bd}
theorem do_call (h:Calm b) (k:Int) (hk:3≤k∧k≤5) (c p:Nat) (hc:c<2) (hp:p<2) (hcp:c≠p) (hr:(b.cor c).runs=none) (hd:Int) (l:List Int):b.do_ ⟨k,c,p,hd,l⟩=({ b with now:=b.now+1 }:Bd).call ⟨k,c,p,hd,l⟩ c p:=by
 have hn:=h.n2
 unfold Bd.do_ Bd.act
 simp only
 rw [if_neg (by omega),if_neg (by omega),if_pos hk,if_neg,if_neg,if_neg (by omega),if_neg]
 ·rfl
 ·show ¬(b.cor ((c:Int).toNat)).runs.isSome=true
  rw [Int.toNat_natCast,hr];simp
 ·rw [Int.toNat_natCast]
  exact fun q=>q ((upb_up b c).1 (h.up c (by omega)))
 ·unfold Bd.has
  simp only
  omega
theorem Calm.of_begun {x:Ev} (h:Calm b) (hN:b.now<40000) (hk:3≤x.kind∧x.kind≤5) (hsc:(b.do_ x).1.sc=b.sc) (h1:(g01 (b.do_ x).1).pc≠4) (h2:(t10 (b.do_ x).1).pc≠4) (h3:(g01 (b.do_ x).1).next=(g01 b).next) (h4:(t10 (b.do_ x).1).used=(t10 b).used):Calm (b.do_ x).1:=by
 obtain ⟨c1,c2,c3,c4⟩:=do_calm h hN (x:=x) (by omega) (by omega)
 have hn:=Bd.do_now b x
 refine ⟨c1,c2,c3,c4,h1,h2,fun v hv=> ?_,fun v hv=> ?_⟩
 ·unfold Bd.av at hv
  rw [hsc,hn.2.1,hn.2.2.1] at hv
  rw [h3];exact h.x2 v hv
 ·unfold Bd.bv at hv
  rw [hsc,hn.2.1,hn.2.2.1] at hv
  rw [h4];exact h.x1 v hv
theorem Calm.send (h:Calm b) (hN:b.now<40000) (hr:(b.cor 0).runs=none) (h0:(g01 b).pc=0) (l:List Int) (hl:l.length≤8) (hw:wordsOk l=true):
  Calm (b.do_ ⟨3,0,1,0,l⟩).1∧(b.do_ ⟨3,0,1,0,l⟩).1.cor 1=b.cor 1∧((b.do_ ⟨3,0,1,0,l⟩).1.cor 0).runs=some (.giv 1)∧g01 (b.do_ ⟨3,0,1,0,l⟩).1= { g01 b with load:=l.map Int.toNat,pc:=1 }∧(b.do_ ⟨3,0,1,0,l⟩).1.diary=b.diary ++ [⟨0,1,1,b.now+1,0,0,l,0⟩]:=by
 have e:=do_call h 3 (by omega) 0 1 (by omega) (by omega) (by omega) hr 0 l
 have hs:(g01 b).send l=({ g01 b with load:=l.map Int.toNat,pc:=1 },0):=by
  unfold Giv.send
  rw [if_neg (by omega),if_neg (by omega),if_neg (by rw [hw];simp)]
 have e2:(b.do_ ⟨3,0,1,0,l⟩).1= { (({ b with now:=b.now+1 }:Bd).setCor 0 { b.cor 0 with giv:=upd (b.cor 0).giv 1 { g01 b with load:=l.map Int.toNat,pc:=1 },runs:=some (.giv 1),entry:=b.diary.length }) with diary:=b.diary ++ [⟨0,1,1,b.now+1,0,0,l,0⟩] }:=by
  have e:b.do_ ⟨3,0,1,0,l⟩=({ b with now:=b.now+1 }:Bd).call ⟨3,0,1,0,l⟩ 0 1:=e
  rw [e]
  unfold Bd.call
  simp only [if_true]
  have hs:((b.cor 0).giv 1).send l=({ g01 b with load:=l.map Int.toNat,pc:=1 },0):=hs
  rw [hs]
  simp only [ne_eq,not_true,if_false]
 have hc0:(b.do_ ⟨3,0,1,0,l⟩).1.cor 0= { b.cor 0 with giv:=upd (b.cor 0).giv 1 { g01 b with load:=l.map Int.toNat,pc:=1 },runs:=some (.giv 1),entry:=b.diary.length }:=by
  rw [e2];exact upd_same b.cor 0 _
 have hc1:(b.do_ ⟨3,0,1,0,l⟩).1.cor 1=b.cor 1:=by
  rw [e2];simp only [Bd.setCor];exact upd_other _ _ _ _ (by omega)
 have hg:g01 (b.do_ ⟨3,0,1,0,l⟩).1= { g01 b with load:=l.map Int.toNat,pc:=1 }:=by
  show ((b.do_ ⟨3,0,1,0,l⟩).1.cor 0).giv 1=_
  rw [hc0];exact upd_same (b.cor 0).giv 1 _
 have ht:t10 (b.do_ ⟨3,0,1,0,l⟩).1=t10 b:=by
  show ((b.do_ ⟨3,0,1,0,l⟩).1.cor 1).tak 0=_
  rw [hc1]
 refine ⟨h.of_begun hN (by simp) (by rw [e2];rfl) (by rw [hg];simp) (by rw [ht];exact h.t4) (by rw [hg]) (by rw [ht]),hc1,by rw [hc0],hg,by rw [e2]⟩
theorem Calm.recv (h:Calm b) (hN:b.now<40000) (hr:(b.cor 1).runs=none) (h0:(t10 b).pc=0):
  Calm (b.do_ ⟨4,1,0,0, []⟩).1∧(b.do_ ⟨4,1,0,0, []⟩).1.cor 0=b.cor 0∧((b.do_ ⟨4,1,0,0, []⟩).1.cor 1).runs=some (.tak 0)∧t10 (b.do_ ⟨4,1,0,0, []⟩).1=(t10 b).begin_ false∧(b.do_ ⟨4,1,0,0, []⟩).1.diary=b.diary ++ [⟨1,0,2,b.now+1,0,0, [],0⟩]:=by
 have e:=do_call h 4 (by omega) 1 0 (by omega) (by omega) (by omega) hr 0 []
 have hs:(t10 b).recv=((t10 b).begin_ false,0):=by
  unfold Tak.recv
  rw [if_neg (by omega)]
 have e2:(b.do_ ⟨4,1,0,0, []⟩).1= { (({ b with now:=b.now+1 }:Bd).setCor 1 { b.cor 1 with tak:=upd (b.cor 1).tak 0 ((t10 b).begin_ false),runs:=some (.tak 0),entry:=b.diary.length }) with diary:=b.diary ++ [⟨1,0,2,b.now+1,0,0, [],0⟩] }:=by
  have e:b.do_ ⟨4,1,0,0, []⟩=({ b with now:=b.now+1 }:Bd).call ⟨4,1,0,0, []⟩ 1 0:=e
  rw [e]
  unfold Bd.call
  simp only
  rw [if_neg (by decide),if_pos trivial]
  have hs:((b.cor 1).tak 0).recv=((t10 b).begin_ false,0):=hs
  rw [hs]
  simp only [ne_eq,not_true,if_false]
 have hc1:(b.do_ ⟨4,1,0,0, []⟩).1.cor 1= { b.cor 1 with tak:=upd (b.cor 1).tak 0 ((t10 b).begin_ false),runs:=some (.tak 0),entry:=b.diary.length }:=by
  rw [e2];exact upd_same b.cor 1 _
 have hc0:(b.do_ ⟨4,1,0,0, []⟩).1.cor 0=b.cor 0:=by
  rw [e2];simp only [Bd.setCor];exact upd_other _ _ _ _ (by omega)
 have ht:t10 (b.do_ ⟨4,1,0,0, []⟩).1=(t10 b).begin_ false:=by
  show ((b.do_ ⟨4,1,0,0, []⟩).1.cor 1).tak 0=_
  rw [hc1];exact upd_same (b.cor 1).tak 0 _
 have hg:g01 (b.do_ ⟨4,1,0,0, []⟩).1=g01 b:=by
  show ((b.do_ ⟨4,1,0,0, []⟩).1.cor 0).giv 1=_
  rw [hc0]
 refine ⟨h.of_begun hN (by simp) (by rw [e2];rfl) (by rw [hg];exact h.g4) (by rw [ht];simp [Tak.begin_]) (by rw [hg]) (by rw [ht];rfl),hc0,by rw [hc1],ht,by rw [e2]⟩
theorem Calm.release (h:Calm b) (hN:b.now<40000) (hr:(b.cor 1).runs=none) (h0:(t10 b).pc=0) (y:Int) (hy:Grants.good (t10 b).tab y):
  Calm (b.do_ ⟨5,1,0,y, []⟩).1∧(b.do_ ⟨5,1,0,y, []⟩).1.cor 0=b.cor 0∧((b.do_ ⟨5,1,0,y, []⟩).1.cor 1).runs=some (.tak 0)∧t10 (b.do_ ⟨5,1,0,y, []⟩).1= { ({ t10 b with tab:=(t10 b).tab.hold (y%64).toNat false }:Tak).begin_ true with d:=(y%64).toNat }∧(b.do_ ⟨5,1,0,y, []⟩).1.diary=b.diary ++ [⟨1,0,3,b.now+1,0,0, [],y⟩]:=by
 have e:=do_call h 5 (by omega) 1 0 (by omega) (by omega) (by omega) hr y []
 have hs0:((t10 b).release y).2=0:=by
  unfold Tak.release
  rw [if_neg (by omega)]
  have e1:Grants.dropR (t10 b).tab y=((t10 b).tab.hold (y%64).toNat false,0):=by unfold Grants.dropR;rw [if_pos hy]
  rw [e1,if_neg (by simp)]
 have hs:=(release_ok hs0).2.2
 have e2:(b.do_ ⟨5,1,0,y, []⟩).1= { (({ b with now:=b.now+1 }:Bd).setCor 1 { b.cor 1 with tak:=upd (b.cor 1).tak 0 ((t10 b).release y).1,runs:=some (.tak 0),entry:=b.diary.length }) with diary:=b.diary ++ [⟨1,0,3,b.now+1,0,0, [],y⟩] }:=by
  have e:b.do_ ⟨5,1,0,y, []⟩=({ b with now:=b.now+1 }:Bd).call ⟨5,1,0,y, []⟩ 1 0:=e
  rw [e]
  unfold Bd.call
  simp only
  rw [if_neg (by decide),if_neg (by decide)]
  have hs0:(((b.cor 1).tak 0).release y).2=0:=hs0
  rw [if_neg (by simp [hs0])]
 rw [hs] at e2
 have hc1:(b.do_ ⟨5,1,0,y, []⟩).1.cor 1= { b.cor 1 with tak:=upd (b.cor 1).tak 0 { ({ t10 b with tab:=(t10 b).tab.hold (y%64).toNat false }:Tak).begin_ true with d:=(y%64).toNat },runs:=some (.tak 0),entry:=b.diary.length }:=by
  rw [e2];exact upd_same b.cor 1 _
 have hc0:(b.do_ ⟨5,1,0,y, []⟩).1.cor 0=b.cor 0:=by
  rw [e2];simp only [Bd.setCor];exact upd_other _ _ _ _ (by omega)
 have ht:t10 (b.do_ ⟨5,1,0,y, []⟩).1= { ({ t10 b with tab:=(t10 b).tab.hold (y%64).toNat false }:Tak).begin_ true with d:=(y%64).toNat }:=by
  show ((b.do_ ⟨5,1,0,y, []⟩).1.cor 1).tak 0=_
  rw [hc1];exact upd_same (b.cor 1).tak 0 _
 have hg:g01 (b.do_ ⟨5,1,0,y, []⟩).1=g01 b:=by
  show ((b.do_ ⟨5,1,0,y, []⟩).1.cor 0).giv 1=_
  rw [hc0]
 refine ⟨h.of_begun hN (by simp) (by rw [e2];rfl) (by rw [hg];exact h.g4) (by rw [ht];simp [Tak.begin_]) (by rw [hg]) (by rw [ht];rfl),hc0,by rw [hc1],ht,by rw [e2]⟩
end
def muG (T:Nat) (s:HS):Nat:=31*(T-s.next)+(if s.next<(g01 s.b).next then 1 else if (g01 s.b).next<(t10 s.b).used+s.b.ring then grank (g01 s.b) else 31)
def muT (T:Nat) (s:HS):Nat:=25*(T-s.came)+(if (s.b.cor 1).runs.isSome=true then (if (t10 s.b).back=true then trank (t10 s.b) else if (t10 s.b).head<(g01 s.b).next then trank (t10 s.b) else 17) else if (t10 s.b).used<(t10 s.b).head then 1 else if (t10 s.b).head<(g01 s.b).next then 16 else 17)
def en0 (T:Nat) (s:HS):Prop:=s.next<T∧(s.next<(g01 s.b).next∨(g01 s.b).next<(t10 s.b).used+s.b.ring)
def en1 (s:HS):Prop:=(t10 s.b).used<(t10 s.b).head∨(t10 s.b).head<(g01 s.b).next
section
variable {want:Loads} {s:HS}
theorem TakI.same {s':HS} (h:TakI s) (h1:s'.b.cor 1=s.b.cor 1) (h2:ents 1 s'.b.diary=ents 1 s.b.diary) (h3:s'.came=s.came):TakI s':=by
 have ht:t10 s'.b=t10 s.b:=by show (s'.b.cor 1).tak 0=_;rw [h1]
 cases h with
 | idle a b c d e f g=>exact .idle (by rw [h1];exact a) (by rw [ht];exact b) (by rw [h2,ht];exact c) (by rw [h2];exact d) (by rw [ht];exact e) (by rw [h3,ht];exact f) (by rw [ht];exact g)
 | got T x a b c d e f g i j k=>exact .got T x (by rw [h1];exact a) (by rw [ht];exact b) (by rw [h2];exact c) (by rw [ht];exact d) e f (by rw [ht];exact g) (by rw [ht];exact i) (by rw [ht];exact j) (by rw [h3,ht];exact k)
 | recv T x a b c d e f g i j k l=>exact .recv T x (by rw [h1];exact a) (by rw [ht];exact b) (by rw [ht];exact c) (by rw [h2];exact d) (by rw [ht];exact e) f g i (by rw [ht];exact j) (by rw [h3,ht];exact k) (by rw [ht];exact l)
 | rel T x a b c d e f g i j k l=>exact .rel T x (by rw [h1];exact a) (by rw [ht];exact b) (by rw [ht];exact c) (by rw [h2];exact d) (by rw [ht];exact e) f g i (by rw [ht];exact j) (by rw [h3,ht];exact k) (by rw [ht];exact l)
theorem GivI.same {s':HS} (h:GivI want s) (h1:s'.b.cor 0=s.b.cor 0) (h2:ents 0 s'.b.diary=ents 0 s.b.diary) (h3:s'.next=s.next):GivI want s':=by
 have hg:g01 s'.b=g01 s.b:=by show (s'.b.cor 0).giv 1=_;rw [h1]
 unfold GivI
 rw [hg,h1,h2,h3]
 exact h
theorem HI.entry (h:HI want s) (c:Nat) (hc:c<2) (hr:(s.b.cor c).runs.isSome=true):∃hk:(s.b.cor c).entry<s.b.diary.length,s.b.diary[(s.b.cor c).entry].core=c∧∃Q,ents c s.b.diary=Q ++ [s.b.diary[(s.b.cor c).entry]]∧∀y:Ent,y.core=c→ents c (s.b.diary.set (s.b.cor c).entry y)=Q ++ [y]:=by
 have hn:=h.calm.n2
 obtain ⟨L,⟨P,C,hI,hD⟩,h0⟩:=h.calm.good
 obtain ⟨hk,h1,h2⟩:=hD.run c (by omega) hr
 exact ⟨hk,h1,ents_set c _ _ hk h1 h2⟩
theorem grank_le30 (g:Giv) (h1:g.load.length≤8) (h2:g.pc=7→g.left≤8):grank g≤30:=by
 unfold grank
 grind (splits:=20)
theorem trank_le17 (t:Tak) (h1:t.many≤8) (h2:t.back=false):trank t≤17:=by
 unfold trank
 rw [if_neg (by rw [h2];simp)]
 grind (splits:=20)
theorem HI.grank_le (h:HI want s):grank (g01 s.b)≤30:=by
 obtain ⟨L,P,C,G,h0,hI,hD,hJ,hDg⟩:=h.calm.ch
 obtain ⟨z,hz⟩:=last_of hJ.neA
 have hgi:=hJ.gi rfl z hz
 obtain ⟨k0,p2,p3,p15,hpe,hce⟩:=zero_g hJ
 have hn:=h.calm.n2
 have hm:=hI.mach 0 1 (by omega) (by omega) (by omega) (h.calm.up 0 (by omega))
 have hl:(g01 s.b).load.length≤8:=hm.giv.len
 have hr:=h.calm.r8
 have h7:(g01 s.b).pc=7→(g01 s.b).left≤8:=by
  intro q
  have hi:=hgi.inn ⟨hgi.wf.wf6 (by omega),by simpa using k0,p2,p3,h.calm.g4⟩
  obtain ⟨u,hu⟩:=last_of hJ.neB
  have h1:=(hi.p7 q).2 u (last_mem hu)
  have h2:=hJ.bv.most u (last_mem hu) (by have:=hce u (last_mem hu);omega)
  have h3:=hi.out.length_eq
  have h4:=hi.all.length_eq
  simp only [List.length_append,List.length_drop,List.length_range,List.length_map] at h3 h4
  omega
 exact grank_le30 _ hl h7
theorem HI.trank_le (h:HI want s) (hb:(t10 s.b).back=false):trank (t10 s.b)≤17:=by
 have hn:=h.calm.n2
 obtain ⟨L,P,C,G,h0,hI,hD,hJ,hDg⟩:=h.calm.ch
 have hm:=hI.mach 1 0 (by omega) (by omega) (by omega) (h.calm.up 1 (by omega))
 exact trank_le17 _ hm.tak.many hb
theorem HI.turn0 (h:HI want s) (h8:∀l∈want,l.length≤8∧wordsOk l=true) (hN:s.b.now<40000):
  HI want (hstep want s ⟨0,false⟩)∧(hstep want s ⟨0,false⟩).b.now≤s.b.now+1∧(hstep want s ⟨0,false⟩).came=s.came∧muG want.length (hstep want s ⟨0,false⟩)≤muG want.length s∧(en0 want.length s→muG want.length (hstep want s ⟨0,false⟩)<muG want.length s)∧muT want.length (hstep want s ⟨0,false⟩)≤muT want.length s∧(en1 s→en1 (hstep want s ⟨0,false⟩)):=by
 have hn:=h.calm.n2
 have hother:∀s':HS,HI want s'→s'.came=s.came→s'.b.cor 1=s.b.cor 1→(g01 s.b).next≤(g01 s'.b).next→muT want.length s'≤muT want.length s∧(en1 s→en1 s'):=by
  intro s' h' e1 e2 e3
  have ht:t10 s'.b=t10 s.b:=by show (s'.b.cor 1).tak 0=_;rw [e2]
  have htr:=h.trank_le
  unfold muT en1
  rw [e1,e2,ht]
  refine ⟨?_,fun q=>by omega⟩
  cases hb:(t10 s.b).back with
  | false=>
   have:=htr hb
   repeat' split
   all_goals omega
  | true=>
   repeat' split
   all_goals first|omega|contradiction
 rcases h.giv with ⟨r,p,q,hnx⟩|⟨r,p,lt,e1,S,e,q1,q2,q3,q4,q5,q6,q7⟩
 ·have hok:okCount s.b=(g01 s.b).next:=by rw [okCount_ents];exact q.count
  by_cases hlt:s.next<want.length
  ·rcases hnx with hnx|hnx
   ·
    have hst:hstep want s ⟨0,false⟩= { s with b:=(s.b.do_ ⟨3,0,1,0,want.getD s.next []⟩).1 }:=by
     unfold hstep begunB
     rw [if_neg (by simp),if_neg (by simp),if_neg (by show ¬(s.b.cor 0).runs.isSome=true;rw [r];simp),if_pos ⟨rfl,hlt⟩,if_neg (by omega)]
     rfl
    have hl:=h8 (want.getD s.next []) (by rw [List.getD_eq_getElem?_getD,List.getElem?_eq_getElem hlt];exact List.getElem_mem _)
    obtain ⟨c1,c2,c3,c4,c5⟩:=h.calm.send hN r p _ hl.1 hl.2
    have hnow:=(Bd.do_now s.b ⟨3,0,1,0,want.getD s.next []⟩)
    have hE0:ents 0 (s.b.do_ ⟨3,0,1,0,want.getD s.next []⟩).1.diary=ents 0 s.b.diary ++ [⟨0,1,1,s.b.now+1,0,0,want.getD s.next [],0⟩]:=by
     rw [c5,ents_append,ents_one,if_pos rfl]
    have hE1:ents 1 (s.b.do_ ⟨3,0,1,0,want.getD s.next []⟩).1.diary=ents 1 s.b.diary:=by
     rw [c5,ents_append,ents_one,if_neg (by simp),List.append_nil]
    rw [hst]
    have hI':HI want { s with b:=(s.b.do_ ⟨3,0,1,0,want.getD s.next []⟩).1 }:=by
     refine ⟨c1, .inr ⟨c3,by show (g01 (s.b.do_ ⟨3,0,1,0,want.getD s.next []⟩).1).pc≠0;rw [c4];simp,hlt,by show (g01 (s.b.do_ ⟨3,0,1,0,want.getD s.next []⟩).1).next=s.next;rw [c4];exact hnx,_,_,hE0,by show SOk want _ (g01 (s.b.do_ ⟨3,0,1,0,want.getD s.next []⟩).1).next;rw [c4];exact q,rfl,rfl,rfl,rfl,rfl⟩,h.tak.same c2 hE1 rfl⟩
    have hnx':(g01 (s.b.do_ ⟨3,0,1,0,want.getD s.next []⟩).1).next=(g01 s.b).next:=by rw [c4]
    have hot:=hother _ hI' rfl c2 (by rw [hnx'];exact Nat.le_refl _)
    have hgr:grank (g01 (s.b.do_ ⟨3,0,1,0,want.getD s.next []⟩).1)=28:=by rw [c4];simp [grank]
    have hgr0:grank (g01 s.b)=29:=by simp [grank,p]
    have ht:t10 (s.b.do_ ⟨3,0,1,0,want.getD s.next []⟩).1=t10 s.b:=by show ((s.b.do_ ⟨3,0,1,0,want.getD s.next []⟩).1.cor 1).tak 0=_;rw [c2]
    refine ⟨hI',by show (s.b.do_ _).1.now≤_;omega,rfl, ?_, ?_,hot.1,hot.2⟩
    ·unfold muG
     simp only [hnx',hgr,hgr0,ht,hnow.2.2.1]
     repeat' split
     all_goals omega
    ·rintro ⟨e1,e2⟩
     unfold muG
     simp only [hnx',hgr,hgr0,ht,hnow.2.2.1]
     repeat' split
     all_goals omega
   ·
    have hst:hstep want s ⟨0,false⟩= { s with next:=s.next+1 }:=by
     unfold hstep begunB
     rw [if_neg (by simp),if_neg (by simp),if_neg (by show ¬(s.b.cor 0).runs.isSome=true;rw [r];simp),if_pos ⟨rfl,hlt⟩,if_pos (by omega)]
    rw [hst]
    have hI':HI want { s with next:=s.next+1 }:=⟨h.calm, .inl ⟨r,p,q, .inl hnx⟩,h.tak.same rfl rfl rfl⟩
    have hot:=hother _ hI' rfl rfl (Nat.le_refl _)
    have hgr:=h.grank_le
    refine ⟨hI',by show s.b.now≤_;omega,rfl, ?_, ?_,hot.1,hot.2⟩
    ·unfold muG
     simp only
     repeat' split
     all_goals omega
    ·rintro ⟨e1,e2⟩
     unfold muG
     simp only
     repeat' split
     all_goals omega
  ·
   have hst:hstep want s ⟨0,false⟩=s:=by
    unfold hstep
    rw [if_neg (by simp),if_neg (by simp),if_neg (by show ¬(s.b.cor 0).runs.isSome=true;rw [r];simp),if_neg (fun q=>hlt q.2),if_neg (by simp)]
   rw [hst]
   exact ⟨h,by omega,rfl,Nat.le_refl _,fun q=>absurd q.1 hlt,Nat.le_refl _,id⟩
 ·
  have hst:hstep want s ⟨0,false⟩= { s with b:=(s.b.do_ ⟨1,0,0,0, []⟩).1 }:=by
   unfold hstep
   rw [if_neg (by simp),if_neg (by simp),if_pos (by show (s.b.cor 0).runs.isSome=true;rw [r];rfl)]
  obtain ⟨c1,c2,c3,d,er,t1,t2,t3,t4,t5⟩:=h.calm.turnG hN r (fun G hJ=>h.slots G hJ)
  obtain ⟨hk,n1,Q,n2,n3⟩:=h.entry 0 (by omega) (by rw [r];rfl)
  have hnow:=(Bd.do_now s.b ⟨1,0,0,0, []⟩)
  have heS:S=Q∧e=s.b.diary[(s.b.cor 0).entry]:=by
   rw [q1] at n2
   obtain ⟨r1,r2⟩:=List.append_inj' n2 rfl
   exact ⟨r1,by simpa using r2⟩
  have hgd:s.b.diary.getD (s.b.cor 0).entry Ent.none_=e:=by rw [heS.2,List.getD_eq_getElem?_getD,List.getElem?_eq_getElem hk,Option.getD_some]
  rw [hgd] at t3
  have hE1:ents 1 (s.b.do_ ⟨1,0,0,0, []⟩).1.diary=ents 1 s.b.diary:=by
   rw [t3]
   split
   ·exact ents_set_other 1 _ _ hk (by omega) _ (by show e.core≠1;rw [heS.2];omega)
   ·rfl
  have hec:e.core=0:=by rw [heS.2];exact n1
  have hT:=h.tak.same (s':= { s with b:=(s.b.do_ ⟨1,0,0,0, []⟩).1 }) c3 hE1 rfl
  rw [hst]
  cases d with
  | true=>
   obtain ⟨u1,u2⟩:=t4 rfl
   have hE0:ents 0 (s.b.do_ ⟨1,0,0,0, []⟩).1.diary=S ++ [{ e with fin:=s.b.now+1,err:=er }]:=by
    rw [t3,if_pos rfl,heS.1]
    exact n3 { e with fin:=s.b.now+1,err:=er } hec
   have hI':HI want { s with b:=(s.b.do_ ⟨1,0,0,0, []⟩).1 }:=by
    refine ⟨c1, .inl ⟨by rw [t1,if_pos rfl],u1, ?_, ?_⟩,hT⟩
    ·show SOk want (ents 0 (s.b.do_ ⟨1,0,0,0, []⟩).1.diary) (g01 (s.b.do_ ⟨1,0,0,0, []⟩).1).next
     rw [hE0]
     rcases u2 with ⟨v1,v2,_⟩|⟨v1,v2,_⟩
     ·rw [v2];exact .ok q2 q3 q4 (by simp) v1 (by rw [e1];exact q7) (by omega)
     ·rw [v2];exact .no q2 q3 q4 (by simp) (by show er≠0;omega) (by show er≠8;omega)
    ·show (g01 (s.b.do_ ⟨1,0,0,0, []⟩).1).next=s.next∨(g01 (s.b.do_ ⟨1,0,0,0, []⟩).1).next=s.next+1
     rcases u2 with ⟨v1,v2,_⟩|⟨v1,v2,_⟩<;>omega
   have hot:=hother _ hI' rfl c3 (by show (g01 s.b).next≤(g01 (s.b.do_ ⟨1,0,0,0, []⟩).1).next;rcases u2 with ⟨v1,v2,_⟩|⟨v1,v2,_⟩<;>omega)
   have hgr:grank (g01 (s.b.do_ ⟨1,0,0,0, []⟩).1)=29:=by simp [grank,u1]
   refine ⟨hI',by show (s.b.do_ _).1.now≤_;omega,rfl, ?_, ?_,hot.1,hot.2⟩
   ·unfold muG
    simp only [c2,hgr,hnow.2.2.1]
    repeat' split
    all_goals omega
   ·rintro ⟨e1,e2⟩
    unfold muG
    simp only [c2,hgr,hnow.2.2.1]
    repeat' split
    all_goals omega
  | false=>
   obtain ⟨u1,u2,u3,u4⟩:=t5 rfl
   have hE0:ents 0 (s.b.do_ ⟨1,0,0,0, []⟩).1.diary=S ++ [e]:=by
    rw [t3,if_neg (by simp),q1]
   have hI':HI want { s with b:=(s.b.do_ ⟨1,0,0,0, []⟩).1 }:=
    ⟨c1, .inr ⟨by rw [t1,if_neg (by simp)],u2,lt,by show (g01 (s.b.do_ ⟨1,0,0,0, []⟩).1).next=s.next;omega,S,e,hE0,by show SOk want S (g01 (s.b.do_ ⟨1,0,0,0, []⟩).1).next;rw [u1];exact q2,q3,q4,q5,q6,q7⟩,hT⟩
   have hot:=hother _ hI' rfl c3 (by show (g01 s.b).next≤(g01 (s.b.do_ ⟨1,0,0,0, []⟩).1).next;omega)
   refine ⟨hI',by show (s.b.do_ _).1.now≤_;omega,rfl, ?_, ?_,hot.1,hot.2⟩
   ·unfold muG
    simp only [c2,u1,hnow.2.2.1]
    by_cases hen:(g01 s.b).next<(t10 s.b).used+s.b.ring
    ·have:=u4 hen
     repeat' split
     all_goals omega
    ·repeat' split
     all_goals omega
   ·rintro ⟨e3,e2⟩
    unfold muG
    simp only [c2,u1,hnow.2.2.1]
    have:=u4 (by omega)
    repeat' split
    all_goals omega
end
end Go.Proofs.YtaaffebnajjfhaaGreatDoor.T
