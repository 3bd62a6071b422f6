/- Texts of this proof, merged: HeadC, HeadD, HeadE. -/
import Derived.Test.YtaaffebnajjfhaaGreatDoorH27
namespace Go.Proofs.YtaaffebnajjfhaaGreatDoor.T
set_option linter.unusedVariables false
set_option linter.unusedSimpArgs false
set_option linter.unusedSectionVars false
open Go.RowKit
theorem heldR_none {k:Grants.Tb} (h:∀j,k.held.getD j false=false):Grants.heldR k= []:=by
 unfold Grants.heldR Grants.heldTo
 rw [List.map_eq_nil_iff,List.filter_eq_nil_iff]
 intro j _
 rw [h j]
 simp
section
variable {E R:Nat} {g g':Giv} {t t':Tak} {A:List GV} {B:List TV} {G:Gho} {w e:Int} {d:Bool} {u:TV} {v:GV}
theorem front_out (h:Jn E R 0 0 true true g t A B G) (g4:g.pc≠4) (hlt:G.hd<G.log.length):(G.log.getD G.hd (0, [])).1<R∧G.log.length-G.hd≤R:=by
 obtain ⟨z,hz⟩:=last_of h.neA
 have hgi:=h.gi rfl z hz
 obtain ⟨k0,p2,p3,p15,hpe,hce⟩:=zero_g h
 have hin:g.inn 0:=by
  refine Decidable.byContradiction fun q=> ?_
  have:=(hgi.out0 q).1
  rw [this] at hlt
  simp at hlt
 have hi:=hgi.inn hin
 have hmem:(G.log.getD G.hd (0, [])).1∈g.out:=by
  refine hi.out.mem_iff.2 (List.mem_append_right _ (List.mem_append_right _ (List.mem_append_left _ ?_)))
  rw [List.getD_eq_getElem?_getD,List.getElem?_eq_getElem hlt,Option.getD_some,List.drop_eq_getElem_cons hlt]
  exact List.mem_cons_self
 have h1:=hi.all.mem_iff.1 (List.mem_append_right _ hmem)
 have h2:=hi.all.length_eq
 have h3:=hi.out.length_eq
 simp only [List.length_append,List.length_range,List.length_drop,List.length_map] at h2 h3
 exact ⟨List.mem_range.1 h1,by omega⟩
theorem tturn (h:Jn E R 0 0 true true g t A B G) (hE:E<50000) (h4:t.pc≠4) (g4:g.pc≠4) (h0:t.pc≠0) (hs:TStep t w t' d e) (hv:A.head? = some v) (hx:g.next≤v.ai) (hheld:∀j,t.tab.held.getD j false=false) (hl8:∀k,k<G.log.length→(G.log.getD k (0, [])).2.length≤8)
  (w1:t.pc=1∨t.pc=14→w=0) (w5:t.pc=5→w=(v.pe:Int)) (w6:t.pc=6→w=(v.ai:Int)) (w7:t.pc=7→w=(v.avail (t.head%R):Int)) (w8:t.pc=8→w=(v.len t.d:Int)):
  (d=true→t.pc=14∧t'.pc=0∧(t.back=true∧e=0∧t'.used=t.used+1∧t'.head=t.head∧t'.tab=t.tab∧G.ulog.length=t.used+1∨
   t.back=false∧e=0∧t'.head=t.head+1∧t'.used=t.used∧t.d<R∧t'.tab=(Grants.giveR t.tab t.d).1∧t'.got=(Grants.giveR t.tab t.d).2.1∨
   t.back=false∧(e=6∨e=10)∧t'.used=t.used∧t'.head=t.head∧t'.tab=t.tab))∧
  (d=false→t'.pc≠0∧t'.pc≠4∧t'.back=t.back∧t'.head=t.head∧t'.used=t.used∧t'.tab=t.tab∧(t.back=true∨t.head<g.next→trank t'<trank t)):=by
 obtain ⟨z,hz⟩:=last_of h.neB
 have hti:=h.ti rfl z hz
 obtain ⟨k0,p2,p3,p14⟩:=zero_t h
 obtain ⟨gk0,gp2,gp3,gp15,hpe,hce⟩:=zero_g h
 have hv':v∈A:=List.mem_of_head? hv
 have hin:t.linked=true→TIn (0+0) R A z G.log G.ulog G.H G.hd t:=fun q=>hti.inn ⟨q,by simpa using k0,p2,p3,h4⟩
 have hwf:=hti.wf
 have hlim:=h.lim
 have hhdl:=h.hdl
 have hmost:=h.av.most v hv' (by have:=hpe v hv';omega)
 have hlb:t.linked=false→t.back=false:=fun q=>(hwf.wfF q).2.2.2 h0
 cases hs with
 | askNew q r=>have:=w1 (.inl q);omega
 | askBack q r s m=>
  refine ⟨fun q=>(by cases q),fun _=>⟨by simp,by simp,rfl,rfl,rfl,rfl,fun _=> ?_⟩⟩
  simp [trank,q,m]
 | askLook q r s m=>
  refine ⟨fun q=>(by cases q),fun _=>⟨by simp,by simp,rfl,rfl,rfl,rfl,fun _=> ?_⟩⟩
  simp [trank,q,m]
 | askLink q r s=>
  have hb:=hlb s
  refine ⟨fun q=>(by cases q),fun _=>⟨by simp,by simp,rfl,rfl,rfl,rfl,fun _=> ?_⟩⟩
  simp [trank,q,hb]
 | settle q=>exact absurd q h4
 | down q r=>
  have:=w5 q
  have:=hpe v hv'
  have hep:t.ep=0:=by unfold Tak.ep;rw [hwf.own,k0];rfl
  rw [hep] at r
  omega
 | link q r=>
  have hb:=hlb (hwf.wf5 q)
  refine ⟨fun q=>(by cases q),fun _=>⟨by simp,by simp,rfl,rfl,rfl,rfl,fun _=> ?_⟩⟩
  simp [trank,q,hb]
 | noLook x q r s m=>
  have hb:=hwf.nb (by omega) (by omega)
  have hi:=hin (hwf.wf6 (by omega))
  have hw:=w6 q
  have hh:=hi.head
  have hle:=hi.hle v hv'
  refine ⟨fun q=>(by cases q),fun _=>⟨by simp,by simp,rfl,rfl,rfl,rfl,fun hen=> ?_⟩⟩
  exfalso
  have hen:t.head<g.next:=hen.resolve_left (by rw [hb];simp)
  have hlt:G.hd<G.log.length:=by omega
  have hfo:=front_out h g4 hlt
  rcases m with ⟨_,m⟩|⟨_,_,m⟩
  ·omega
  ·have hr:t.held= []:=heldR_none hheld
   have:=hwf.ring
   rw [hr] at m
   simp only [List.length_nil] at m
   omega
 | look q r=>
  have hb:=hwf.nb (by omega) (by omega)
  refine ⟨fun q=>(by cases q),fun _=>⟨by simp,by simp,rfl,rfl,rfl,rfl,fun hen=> ?_⟩⟩
  simp [trank,q,hb]
 | badSlot q r=>
  have hi:=hin (hwf.wf6 (by omega))
  have hlt:=hi.ai (.inl (by omega)) v hv'
  have hst:=h.av.ok v hv' (by have:=hpe v hv';omega) G.hd (Nat.le_refl _) hlt
  have hfo:=front_out h g4 (by omega)
  have hw:=w7 q
  rw [hi.head,hst.1] at hw
  have:=hwf.ring
  exfalso
  rcases r with r|r
  ·omega
  ·have hr:t.held= []:=heldR_none hheld
   rw [hr] at r
   simp [idx] at r
 | slot q r s=>
  have hb:=hwf.nb (by omega) (by omega)
  refine ⟨fun q=>(by cases q),fun _=>⟨by simp,by simp,rfl,rfl,rfl,rfl,fun hen=> ?_⟩⟩
  simp [trank,q,hb]
 | badSize q r=>
  have hi:=hin (hwf.wf6 (by omega))
  have hlt:=hi.ai (.inl (by omega)) v hv'
  have hst:=h.av.ok v hv' (by have:=hpe v hv';omega) G.hd (Nat.le_refl _) hlt
  have hd8:=hi.d8 (.inl (by omega))
  have hw:=w8 q
  rw [hd8.1,hst.2.1] at hw
  have:=hl8 G.hd (by omega)
  omega
 | size p q r m=>
  have hb:=hwf.nb (by omega) (by omega)
  have hemp:=hwf.emp (by omega) (by omega)
  refine ⟨fun q=>(by cases q),fun _=>⟨by show p≠0;omega,by show p≠4;omega,rfl,rfl,rfl,rfl,fun hen=> ?_⟩⟩
  rcases m with ⟨m1,rfl⟩|⟨m1,rfl⟩
  ·simp [trank,q,hb,hemp];omega
  ·simp [trank,q,hb]
 | word p q m=>
  have hb:=hwf.nb (by omega) (by omega)
  have hi:=hin (hwf.wf6 (by omega))
  have h9:=(hi.w9 q).2.2
  refine ⟨fun q=>(by cases q),fun _=>⟨by show p≠0;omega,by show p≠4;omega,rfl,rfl,rfl,rfl,fun hen=> ?_⟩⟩
  rcases m with ⟨m1,rfl⟩|⟨m1,rfl⟩
  ·simp [trank,q,hb];omega
  ·simp [trank,q,hb];omega
 | flush q=>
  have hb:=hwf.yb (by omega) (by omega)
  refine ⟨fun q=>(by cases q),fun _=>⟨by simp,by simp,rfl,rfl,rfl,rfl,fun hen=> ?_⟩⟩
  simp [trank,q,hb]
 | reset q r=>have:=w1 (.inr q);omega
 | told q r s=>
  have ha:=hwf.ans q
  exact ⟨fun _=>⟨q,rfl, .inr (.inr ⟨by rcases ha with ha|ha;exact absurd ha s;exact ha.1,by rcases ha with ha|ha;exact absurd ha s;exact ha.2,rfl,rfl,rfl⟩)⟩,fun q=>(by cases q)⟩
 | freed q r s m=>
  have hi:=hin (hwf.wf6 (by omega))
  have hu:=hi.used
  have hto:t.told=1:=by unfold Tak.told;rw [if_pos ⟨m, .inr q⟩]
  refine ⟨fun _=>⟨q,rfl, .inl ⟨m,rfl, ?_,rfl,rfl,by omega⟩⟩,fun q=>(by cases q)⟩
  show (t.used+1)%65536=t.used+1
  omega
 | came q r s m=>
  have hi:=hin (hwf.wf6 (by omega))
  have hh:=hi.head
  have hd8:=hi.d8 (.inr ⟨q,m,s⟩)
  refine ⟨fun _=>⟨q,rfl, .inr (.inl ⟨m,rfl, ?_,rfl,hd8.2.1,rfl,rfl⟩)⟩,fun q=>(by cases q)⟩
  show (t.head+1)%65536=t.head+1
  omega
 | next q=>
  have hb:t.back=true:=by
   rcases q with q|q|q
   ·exact absurd q p2
   ·exact absurd q p3
   ·exact hwf.yb (by omega) (by omega)
  have q:t.pc=10∨t.pc=11∨t.pc=12:=by omega
  refine ⟨fun q=>(by cases q),fun _=>⟨by simp,by show t.pc+1≠4;omega,rfl,rfl,rfl,rfl,fun hen=> ?_⟩⟩
  rcases q with q|q|q<;>simp [trank,q,hb]
end
abbrev g01 (b:Bd):Giv:=(b.cor 0).giv 1
abbrev t10 (b:Bd):Tak:=(b.cor 1).tak 0
structure Calm (b:Bd):Prop where
 good:∃L,Good b L∧∀x∈L,x=0
 ep:∀c,b.ep c=0
 up:∀c,c<b.n→b.upb c=true
 r8:b.ring≤8
 g4:(g01 b).pc≠4
 t4:(t10 b).pc≠4
 x2:∀v∈b.av 0 1,(g01 b).next≤v.ai
 x1:∀u∈b.bv 0 1,(t10 b).used≤u.ui
theorem do_calm {b:Bd} {x:Ev} (h:Calm b) (hN:b.now<40000) (h6:x.kind≠6) (h7:x.kind≠7):(∃L,Good (b.do_ x).1 L∧∀y∈L,y=0)∧(∀c,(b.do_ x).1.ep c=0)∧(∀c,c<(b.do_ x).1.n→(b.do_ x).1.upb c=true)∧(b.do_ x).1.ring≤8:=by
 obtain ⟨L,hG,h0⟩:=h.good
 have hg:=do_gate b x h6 h7
 have hn:=Bd.do_now b x
 refine ⟨⟨_,hG.do_ hN x,fun y hy=> ?_⟩,fun c=> ?_,fun c hc=> ?_,by rw [hn.2.2.1];exact h.r8⟩
 ·unfold linksOf at hy
  split at hy
  ·rcases List.mem_append.1 hy with hy|hy
   ·exact h0 y hy
   ·rw [List.mem_singleton.1 hy,h.ep,h.ep]
  ·exact h0 y hy
 ·have:=h.ep c
  unfold Bd.ep at this ⊢
  rw [hg];exact this
 ·rw [hn.2.1] at hc
  have:=h.up c hc
  unfold Bd.upb at this ⊢
  rw [hg];exact this
section
variable {b:Bd}
theorem Calm.n2 (h:Calm b):2≤b.n:=by obtain ⟨L,⟨P,C,hI,_⟩,_⟩:=h.good;exact hI.n2
theorem Calm.ch (h:Calm b):∃L P C G,(∀x∈L,x=0)∧BI b P C∧DR b L P C∧Jn b.now b.ring 0 0 true true (g01 b) (t10 b) (b.av 0 1) (b.bv 0 1) G∧Dg 0 1 0 0 true true (g01 b) (t10 b) G (P 0) (C 0) (P 1) (C 1):=by
 have hn:=h.n2
 obtain ⟨L,⟨P,C,hI,hD⟩,h0⟩:=h.good
 obtain ⟨G,h1,h2⟩:=hI.ch 0 1 (by omega) (by omega) (by omega)
 rw [h.ep,h.ep,h.up 0 (by omega),h.up 1 (by omega)] at h1 h2
 exact ⟨L,P,C,G,h0,hI,hD,h1,h2⟩
theorem Calm.drain (h:Calm b) (hN:b.now<40000) (c:Nat) (hc:c<b.n):Calm (b.do_ ⟨2,c,0,0, []⟩).1∧(b.do_ ⟨2,c,0,0, []⟩).1.cor=b.cor∧(b.do_ ⟨2,c,0,0, []⟩).1.diary=b.diary:=by
 have hd:=do_calm (x:=⟨2,c,0,0, []⟩) h hN (show (2:Int)≠6 by decide) (show (2:Int)≠7 by decide)
 have hn:=h.n2
 obtain ⟨L,P,C,G,h0,hI,hD,hJ,hDg⟩:=h.ch
 have e:(b.do_ ⟨2,c,0,0, []⟩).1=({ b with now:=b.now+1 }:Bd).setSc { b.sc with m:=drM b.sc.m (b.sc.q c),q:=upd b.sc.q c (b.sc.q c).tail }:=by
  unfold Bd.do_ Bd.act
  simp only
  rw [if_neg (by decide),if_pos trivial,if_neg (by unfold Bd.has;simp only [Decidable.not_not];omega)]
  rfl
 obtain ⟨d1,d2,d3,d4⟩:=hd
 rw [e] at d1 d2 d3 d4 ⊢
 refine ⟨⟨d1,d2,d3,d4,h.g4,h.t4,fun v hv=> ?_,fun v hv=> ?_⟩,rfl,rfl⟩
 ·have hv:v∈(sts (drM b.sc.m (b.sc.q c)) (upd b.sc.q c (b.sc.q c).tail 0)).map (gview (chanBase b.n b.ring 0 1) b.ring):=hv
  by_cases e0:0=c
  ·subst e0
   exact h.x2 v ((drain_own (v:=gview (chanBase b.n b.ring 0 1) b.ring) (s:=b.sc) (c:=0)).1.subset hv)
  ·rw [drain_foreign (gview_looks _ _) e0 (notG_of hI hc (by omega) (by omega) (by omega) e0)] at hv
   exact h.x2 v hv
 ·have hv:v∈(sts (drM b.sc.m (b.sc.q c)) (upd b.sc.q c (b.sc.q c).tail 1)).map (tview (chanBase b.n b.ring 0 1) b.ring):=hv
  by_cases e0:1=c
  ·subst e0
   exact h.x1 v ((drain_own (v:=tview (chanBase b.n b.ring 0 1) b.ring) (s:=b.sc) (c:=1)).1.subset hv)
  ·rw [drain_foreign (tview_looks _ _) e0 (notT_of hI hc (by omega) (by omega) (by omega) e0)] at hv
   exact h.x1 v hv
theorem sideTo_mem {α : Type} {l l':List α} (h:SideTo l l'):∀x∈l',x∈l:=by
 intro x hx
 rcases h with h|⟨l1,z,h1,h2,rfl⟩
 ·exact h.1.subset hx
 ·rcases List.mem_append.1 hx with hx|hx
  ·exact h1.subset hx
  ·rw [List.mem_singleton.1 hx];exact List.mem_of_getLast? h2
theorem step_g (b:Bd) (h:Calm b) (hrun:(b.cor 0).runs=some (.giv 1)):
  ∃o,o=(g01 b).go (b.sc.tch b.most 0 (g01 b).tch).2∧(b.do_ ⟨1,0,0,0, []⟩).1.cor=upd b.cor 0 { b.cor 0 with giv:=upd (b.cor 0).giv 1 o.1,runs:=if o.2.1=true then none else some (.giv 1) }∧
   (b.do_ ⟨1,0,0,0, []⟩).1.sc=(b.sc.tch b.most 0 (g01 b).tch).1∧
   (b.do_ ⟨1,0,0,0, []⟩).1.diary=if o.2.1=true then b.diary.set (b.cor 0).entry { b.diary.getD (b.cor 0).entry Ent.none_ with fin:=b.now+1,err:=o.2.2 } else b.diary:=by
 have hn:=h.n2
 have e:(b.do_ ⟨1,0,0,0, []⟩).1=(({ b with now:=b.now+1 }:Bd).step 0).1:=by
  unfold Bd.do_ Bd.act
  simp only
  rw [if_pos trivial,if_neg (by unfold Bd.has;simp only [Decidable.not_not];omega),if_neg]
  ·rfl
  ·exact fun q=>q ((upb_up b 0).1 (h.up 0 (by omega)))
 refine ⟨_,rfl, ?_⟩
 rw [e]
 unfold Bd.step
 simp only [hrun]
 by_cases hd:((g01 b).go (b.sc.tch b.most 0 (g01 b).tch).2).2.1=true
 ·rw [if_pos hd,if_pos hd,if_pos hd]
  exact ⟨rfl,rfl,rfl⟩
 ·rw [if_neg hd,if_neg hd,if_neg hd]
  exact ⟨by show upd b.cor 0 _=_;rw [←hrun],rfl,rfl⟩
theorem step_t (b:Bd) (h:Calm b) (hrun:(b.cor 1).runs=some (.tak 0)):
  ∃o,o=(t10 b).go (b.sc.tch b.most 1 (t10 b).tch).2∧(b.do_ ⟨1,1,0,0, []⟩).1.cor=upd b.cor 1 { b.cor 1 with tak:=upd (b.cor 1).tak 0 o.1,runs:=if o.2.1=true then none else some (.tak 0) }∧
   (b.do_ ⟨1,1,0,0, []⟩).1.sc=(b.sc.tch b.most 1 (t10 b).tch).1∧
   (b.do_ ⟨1,1,0,0, []⟩).1.diary=if o.2.1=true then ({ b with now:=b.now+1 }:Bd).finT (b.cor 1).entry o.2.2 o.1.gotR else b.diary:=by
 have hn:=h.n2
 have e:(b.do_ ⟨1,1,0,0, []⟩).1=(({ b with now:=b.now+1 }:Bd).step 1).1:=by
  unfold Bd.do_ Bd.act
  simp only
  rw [if_pos trivial,if_neg (by unfold Bd.has;simp only [Decidable.not_not];omega),if_neg]
  ·rfl
  ·exact fun q=>q ((upb_up b 1).1 (h.up 1 (by omega)))
 refine ⟨_,rfl, ?_⟩
 rw [e]
 unfold Bd.step
 simp only [hrun]
 by_cases hd:((t10 b).go (b.sc.tch b.most 1 (t10 b).tch).2).2.1=true
 ·rw [if_pos hd,if_pos hd,if_pos hd]
  exact ⟨rfl,rfl,rfl⟩
 ·rw [if_neg hd,if_neg hd,if_neg hd]
  exact ⟨by show upd b.cor 1 _=_;rw [←hrun],rfl,rfl⟩
theorem Calm.turnG (h:Calm b) (hN:b.now<40000) (hrun:(b.cor 0).runs=some (.giv 1)) (hH:∀G,Jn b.now b.ring 0 0 true true (g01 b) (t10 b) (b.av 0 1) (b.bv 0 1) G→G.ulog.length+G.H.length≤G.hd):
  Calm (b.do_ ⟨1,0,0,0, []⟩).1∧t10 (b.do_ ⟨1,0,0,0, []⟩).1=t10 b∧(b.do_ ⟨1,0,0,0, []⟩).1.cor 1=b.cor 1∧∃(d:Bool) (e:Int),
   ((b.do_ ⟨1,0,0,0, []⟩).1.cor 0).runs=(if d=true then none else some (.giv 1))∧((b.do_ ⟨1,0,0,0, []⟩).1.cor 0).entry=(b.cor 0).entry∧
   (b.do_ ⟨1,0,0,0, []⟩).1.diary=(if d=true then b.diary.set (b.cor 0).entry { b.diary.getD (b.cor 0).entry Ent.none_ with fin:=b.now+1,err:=e } else b.diary)∧
   (d=true→(g01 (b.do_ ⟨1,0,0,0, []⟩).1).pc=0∧(e=0∧(g01 (b.do_ ⟨1,0,0,0, []⟩).1).next=(g01 b).next+1∧grank (g01 b)=3∨(e=5∨e=10)∧(g01 (b.do_ ⟨1,0,0,0, []⟩).1).next=(g01 b).next∧grank (g01 b)=30))∧
   (d=false→(g01 (b.do_ ⟨1,0,0,0, []⟩).1).next=(g01 b).next∧(g01 (b.do_ ⟨1,0,0,0, []⟩).1).pc≠0∧(g01 (b.do_ ⟨1,0,0,0, []⟩).1).load=(g01 b).load∧((g01 b).next<(t10 b).used+b.ring→grank (g01 (b.do_ ⟨1,0,0,0, []⟩).1)<grank (g01 b))):=by
 have hn:=h.n2
 have hcalm:=do_calm (x:=⟨1,0,0,0, []⟩) h hN (show (1:Int)≠6 by decide) (show (1:Int)≠7 by decide)
 have hnw:=Bd.do_now b ⟨1,0,0,0, []⟩
 obtain ⟨o,ho,hc,hsc,hdi⟩:=step_g b h hrun
 obtain ⟨L,P,C,G,h0,hI,hD,hJ,hDg⟩:=h.ch
 have hu:=h.up 0 (by omega)
 have hm:=hI.mach 0 1 (by omega) (by omega) (by omega) hu
 have hran:=hI.ran 0 (by omega)
 unfold Bd.Ran at hran
 rw [hrun] at hran
 obtain ⟨_,_,_,hent,x,hx,hxp⟩:=hran
 have hpc0:(g01 b).pc≠0:=(hDg.rung x hx hxp).2.1
 have hs:=Giv.go_step (g01 b) (b.sc.tch b.most 0 (g01 b).tch).2 hpc0 hm.giv.pc
 rw [←ho] at hs
 have hread:=fun hst=>giv_reads hI (c:=0) (p:=1) (by omega) (by omega) (by omega) hu hpc0 hst
 have e1:=h.ep 1
 have hst_of:∀q:(g01 b).pc=1∨(g01 b).pc=15∨(g01 b).pc=5∨(g01 b).pc=6∨(g01 b).pc=7,(g01 b).stores=false:=fun q=>by
  rcases q with q|q|q|q|q<;>simp [Giv.stores,q]
 obtain ⟨g',d,e⟩:=o
 simp only at hs hc hdi
 have htm:=hm.tak
 have hx1:=h.x1 (tview (chanBase b.n b.ring 0 1) b.ring b.sc.m) (List.mem_of_head? map_head)
 have hT:=gturn hJ (by omega) h.r8 h.g4 hpc0 hm.giv.len hs map_head hx1 (hH G hJ)
  (fun q=>by have:=(hread (hst_of (by omega))).1 q;rw [e1] at this;exact this)
  (fun q=>(hread (hst_of (by omega))).2.1 q) (fun q=>(hread (hst_of (by omega))).2.2.1 q) (fun q=>(hread (hst_of (by omega))).2.2.2 q)
 have hg':g01 (b.do_ ⟨1,0,0,0, []⟩).1=g':=by
  show ((b.do_ ⟨1,0,0,0, []⟩).1.cor 0).giv 1=g'
  rw [hc,upd_same]
  show upd (b.cor 0).giv 1 g' 1=g'
  rw [upd_same]
 have hc1:(b.do_ ⟨1,0,0,0, []⟩).1.cor 1=b.cor 1:=by rw [hc,upd_other _ _ _ _ (by omega)]
 have ht':t10 (b.do_ ⟨1,0,0,0, []⟩).1=t10 b:=by show ((b.do_ ⟨1,0,0,0, []⟩).1.cor 1).tak 0=_;rw [hc1]
 obtain ⟨z,hz⟩:=last_of hJ.neA
 have hgi:=hJ.gi rfl z hz
 obtain ⟨k0,p2,p3,p15,hpe,hce⟩:=zero_g hJ
 have hzai:z.ai=G.log.length:=(hgi.hi (by simpa using k0) p2 p3).2
 have hzx:=h.x2 z (last_mem hz)
 have hlim:=hJ.lim
 have hturn:Turn b (b.do_ ⟨1,0,0,0, []⟩).1 0 (g01 b).tch { b.cor 0 with giv:=upd (b.cor 0).giv 1 g',runs:=if d=true then none else some (.giv 1) }:=
  ⟨hnw.2.1,hnw.2.2.1,hnw.1,hsc,hc,by rw [hdi];split<;>simp⟩
 refine ⟨⟨hcalm.1,hcalm.2.1,hcalm.2.2.1,hcalm.2.2.2, ?_, ?_, ?_, ?_⟩,ht',hc1,d,e, ?_, ?_,hdi, ?_, ?_⟩
 ·rw [hg']
  cases d with
  | true=>have:=(hT.1 rfl).2.1;omega
  | false=>exact (hT.2 rfl).2.2.1
 ·rw [ht'];exact h.t4
 ·rw [hg',hturn.av]
  intro v hv
  have hnxt:g'.next=(g01 b).next∨d=true∧(g01 b).pc=15∧g'.next=(g01 b).next+1∧G.log.length=(g01 b).next+1:=by
   cases d with
   | true=>
    obtain ⟨q1,q2,q3⟩:=hT.1 rfl
    rcases q3 with q3|q3
    ·exact .inr ⟨rfl,q1,q3.2.2.1,q3.2.2.2⟩
    ·exact .inl q3.2.2
   | false=>exact .inl (hT.2 rfl).1
  cases hst:(g01 b).stores with
  | false=>
   have hside:=tch_idle (v:=gview (chanBase b.n b.ring 0 1) b.ring) (most:=b.most) (c:=0) (s:=b.sc) (W:=isG (chanBase b.n b.ring 0 1) b.ring) (gview_looks _ _) (g01 b).tch (fun a y q=>absurd q (giv_ld hm.giv.pc hpc0 hst a y))
   rcases hnxt with q|⟨q1,q2,q3,q4⟩
   ·rw [q];exact h.x2 v (sideTo_mem hside v hv)
   ·have htc:(g01 b).tch= .ep (g01 b).peer:=by simp [Giv.tch,q2]
    rw [htc] at hv
    have hv:v∈(sts (applyAll b.sc.m (b.sc.q 0)) (upd b.sc.q 0 [] 0)).map (gview (chanBase b.n b.ring 0 1) b.ring):=hv
    rw [upd_same] at hv
    simp only [sts,List.map_cons,List.map_nil,List.mem_singleton] at hv
    have hz2:z=gview (chanBase b.n b.ring 0 1) b.ring (applyAll b.sc.m (b.sc.q 0)):=by
     have:(b.av 0 1).getLast? = some (gview (chanBase b.n b.ring 0 1) b.ring (applyAll b.sc.m (b.sc.q 0))):=by
      unfold Bd.av
      rw [List.getLast?_map,sts_last];rfl
     rw [hz] at this
     injection this
    rw [hv, ←hz2,q3,hzai,q4]
    exact Nat.le_refl _
  | true=>
   have htc:=Giv.tch_st _ hst
   obtain ⟨l1,q1,q2,q3⟩:=tch_put (most:=b.most) (c:=0) (s:=b.sc) (v:=gview (chanBase b.n b.ring 0 1) b.ring) (g01 b).stA.1 (g01 b).stA.2
   rw [htc,q3] at hv
   have hput:=(gview_put _ hm.giv hst (applyAll b.sc.m (b.sc.q 0))).1
   rw [hm.gbase,hm.gring] at hput
   have hput:gview (chanBase b.n b.ring 0 1) b.ring (upd (applyAll b.sc.m (b.sc.q 0)) (g01 b).stA.1 (g01 b).stA.2)=(g01 b).put (gview (chanBase b.n b.ring 0 1) b.ring (applyAll b.sc.m (b.sc.q 0))):=hput
   rw [hput] at hv
   have hz2:(b.av 0 1).getLast? = some (gview (chanBase b.n b.ring 0 1) b.ring (applyAll b.sc.m (b.sc.q 0))):=q2
   rw [hz] at hz2
   injection hz2 with hz2
   rw [←hz2] at hv
   have hsame:g'.next=(g01 b).next:=by
    rcases hnxt with q|⟨q1,q2,_⟩
    ·exact q
    ·rw [hst_of (by omega)] at hst;cases hst
   rw [hsame]
   rcases List.mem_append.1 hv with hv|hv
   ·exact h.x2 v (q1.subset hv)
   ·rw [List.mem_singleton.1 hv]
    unfold Giv.put
    rw [if_neg p2,if_neg p3]
    split
    ·exact hzx
    ·split
     ·exact hzx
     ·split
      ·exact hzx
      ·split
       ·show (g01 b).next≤((g01 b).next+1)%65536
        omega
       ·exact hzx
 ·rw [ht',hturn.bv]
  rw [bv_tch hI (c:=0) (by omega) (by omega) (by omega) (by omega) (by omega) _]
  exact h.x1
 ·rw [hc,upd_same]
 ·rw [hc,upd_same]
 ·intro q
  rw [hg']
  obtain ⟨q1,q2,q3⟩:=hT.1 q
  refine ⟨q2, ?_⟩
  rcases q3 with q3|q3
  ·exact .inl ⟨q3.1,q3.2.2.1,by simp [grank,q1,q3.2.1]⟩
  ·refine .inr ⟨q3.1,q3.2.2, ?_⟩
   have:(g01 b).answer≠0:=by rw [q3.2.1];omega
   simp [grank,q1,this]
 ·intro q
  rw [hg']
  obtain ⟨q1,q2,q3,q4,q5⟩:=hT.2 q
  exact ⟨q1,q2,q4,q5⟩
end
theorem give_good {k:Grants.Tb} {R d:Nat} (ok:k.Ok) (hn:k.n=(R:Int)) (hd:d<R) (h0:∀j,k.held.getD j false=false) (hg:k.gens.getD d 0<65535):
  (Grants.giveR k d).2.1≠0∧Grants.good (Grants.giveR k d).1 (Grants.giveR k d).2.1∧((Grants.giveR k d).2.1%64).toNat=d∧∀j,(Grants.giveR k d).1.held.getD j false=true→j=d:=by
 have h64:d<64:=by have:=ok.n1;omega
 have hp:=(ok.get d h64).1
 have e:Grants.giveR k d=((k.gen d ((k.gens.getD d 0+1)%65536)).hold d true,(k.gens.getD d 0+1)%65536*64+d,true):=by
  unfold Grants.giveR
  rw [if_pos ⟨by omega,by omega,by rw [Int.toNat_natCast];exact h0 d⟩]
  simp only [Int.toNat_natCast]
 rw [e]
 simp only
 have em:((k.gens.getD d 0+1)%65536*64+(d:Int))%64=d:=by omega
 refine ⟨by omega, ?_,by rw [em];simp,fun j hj=> ?_⟩
 ·unfold Grants.good
  rw [em,Int.toNat_natCast]
  refine ⟨?_, ?_, ?_⟩
  ·show (d:Int)<k.n;omega
  ·show (k.held.set d true).getD d false=true
   rw [getD_set_bool _ _ _ _ (by rw [ok.lh];exact h64),if_pos rfl]
  ·show (k.gens.set d ((k.gens.getD d 0+1)%65536)).getD d 0*64+(d:Int)=_
   rw [getD_setI _ _ _ _ (by rw [ok.lg];exact h64),if_pos rfl]
 ·have hj:(k.held.set d true).getD j false=true:=hj
  rw [getD_set_bool _ _ _ _ (by rw [ok.lh];exact h64)] at hj
  by_cases q:j=d
  ·exact q
  ·rw [if_neg q,h0 j] at hj;cases hj
section
variable {b:Bd}
theorem Calm.turnT (h:Calm b) (hN:b.now<40000) (hrun:(b.cor 1).runs=some (.tak 0)) (hheld:∀j,(t10 b).tab.held.getD j false=false)
  {L:List Nat} {P:Nat→List Rec} {C:Nat→Option Rec} {G:Gho} (hI:BI b P C) (hJ:Jn b.now b.ring 0 0 true true (g01 b) (t10 b) (b.av 0 1) (b.bv 0 1) G) (hDg:Dg 0 1 0 0 true true (g01 b) (t10 b) G (P 0) (C 0) (P 1) (C 1)) (hl8:∀k,k<G.log.length→(G.log.getD k (0, [])).2.length≤8):
  Calm (b.do_ ⟨1,1,0,0, []⟩).1∧g01 (b.do_ ⟨1,1,0,0, []⟩).1=g01 b∧(b.do_ ⟨1,1,0,0, []⟩).1.cor 0=b.cor 0∧∃(d:Bool) (e:Int) (go:List Nat × Int),
   ((b.do_ ⟨1,1,0,0, []⟩).1.cor 1).runs=(if d=true then none else some (.tak 0))∧((b.do_ ⟨1,1,0,0, []⟩).1.cor 1).entry=(b.cor 1).entry∧
   (b.do_ ⟨1,1,0,0, []⟩).1.diary=(if d=true then ({ b with now:=b.now+1 }:Bd).finT (b.cor 1).entry e go else b.diary)∧
   (d=true→(t10 (b.do_ ⟨1,1,0,0, []⟩).1).pc=0∧(
    (t10 b).back=true∧e=0∧(t10 (b.do_ ⟨1,1,0,0, []⟩).1).used=(t10 b).used+1∧(t10 (b.do_ ⟨1,1,0,0, []⟩).1).head=(t10 b).head∧(∀j,(t10 (b.do_ ⟨1,1,0,0, []⟩).1).tab.held.getD j false=false)∧trank (t10 b)=19∨
    (t10 b).back=false∧e=0∧(t10 (b.do_ ⟨1,1,0,0, []⟩).1).used=(t10 b).used∧(t10 (b.do_ ⟨1,1,0,0, []⟩).1).head=(t10 b).head+1∧Grants.good (t10 (b.do_ ⟨1,1,0,0, []⟩).1).tab go.2∧(∀j,(t10 (b.do_ ⟨1,1,0,0, []⟩).1).tab.held.getD j false=true→j=(go.2%64).toNat)∨
    (t10 b).back=false∧(e=6∨e=10)∧(t10 (b.do_ ⟨1,1,0,0, []⟩).1).used=(t10 b).used∧(t10 (b.do_ ⟨1,1,0,0, []⟩).1).head=(t10 b).head∧(∀j,(t10 (b.do_ ⟨1,1,0,0, []⟩).1).tab.held.getD j false=false)∧trank (t10 b)=17))∧
   (d=false→(t10 (b.do_ ⟨1,1,0,0, []⟩).1).pc≠0∧(t10 (b.do_ ⟨1,1,0,0, []⟩).1).back=(t10 b).back∧(t10 (b.do_ ⟨1,1,0,0, []⟩).1).used=(t10 b).used∧(t10 (b.do_ ⟨1,1,0,0, []⟩).1).head=(t10 b).head∧(∀j,(t10 (b.do_ ⟨1,1,0,0, []⟩).1).tab.held.getD j false=false)∧
    ((t10 b).back=true∨(t10 b).head<(g01 b).next→trank (t10 (b.do_ ⟨1,1,0,0, []⟩).1)<trank (t10 b))):=by
 have hn:=h.n2
 have hcalm:=do_calm (x:=⟨1,1,0,0, []⟩) h hN (show (1:Int)≠6 by decide) (show (1:Int)≠7 by decide)
 have hnw:=Bd.do_now b ⟨1,1,0,0, []⟩
 obtain ⟨o,ho,hc,hsc,hdi⟩:=step_t b h hrun
 have hu:=h.up 1 (by omega)
 have hm:=hI.mach 1 0 (by omega) (by omega) (by omega) hu
 have hran:=hI.ran 1 (by omega)
 unfold Bd.Ran at hran
 rw [hrun] at hran
 obtain ⟨_,_,_,hent,x,hx,hxp⟩:=hran
 have hpc0:(t10 b).pc≠0:=(hDg.runt x hx hxp).2.1
 have hs:=Tak.go_step (t10 b) (b.sc.tch b.most 1 (t10 b).tch).2 hpc0 hm.tak.pc
 rw [←ho] at hs
 have hread:=fun hst=>tak_reads hI (c:=1) (p:=0) (by omega) (by omega) (by omega) hu hpc0 hst
 have e1:=h.ep 0
 have hst_of:∀q:(t10 b).pc=1∨(t10 b).pc=14∨(t10 b).pc=5∨(t10 b).pc=6∨(t10 b).pc=7∨(t10 b).pc=8,(t10 b).stores=false:=fun q=>by
  rcases q with q|q|q|q|q|q<;>simp [Tak.stores,q]
 obtain ⟨t',d,e⟩:=o
 simp only at hs hc hdi
 have hx2:=h.x2 (gview (chanBase b.n b.ring 0 1) b.ring b.sc.m) (List.mem_of_head? map_head)
 have hT:=tturn hJ (by omega) h.t4 h.g4 hpc0 hs map_head hx2 hheld hl8
  (fun q=>by have:=(hread (hst_of (by omega))).1 q;rw [e1] at this;exact this)
  (fun q=>(hread (hst_of (by omega))).2.1 q) (fun q=>(hread (hst_of (by omega))).2.2.1 q) (fun q=>(hread (hst_of (by omega))).2.2.2.1 q) (fun q=>(hread (hst_of (by omega))).2.2.2.2.1 q)
 have ht':t10 (b.do_ ⟨1,1,0,0, []⟩).1=t':=by
  show ((b.do_ ⟨1,1,0,0, []⟩).1.cor 1).tak 0=t'
  rw [hc,upd_same]
  show upd (b.cor 1).tak 0 t' 0=t'
  rw [upd_same]
 have hc0:(b.do_ ⟨1,1,0,0, []⟩).1.cor 0=b.cor 0:=by rw [hc,upd_other _ _ _ _ (by omega)]
 have hg':g01 (b.do_ ⟨1,1,0,0, []⟩).1=g01 b:=by show ((b.do_ ⟨1,1,0,0, []⟩).1.cor 0).giv 1=_;rw [hc0]
 obtain ⟨z,hz⟩:=last_of hJ.neB
 have hti:=hJ.ti rfl z hz
 obtain ⟨k0,p2,p3,p14⟩:=zero_t hJ
 have hzui:z.ui=G.ulog.length:=(hti.hi (by simpa using k0) p2 p3).2
 have hzx:=h.x1 z (last_mem hz)
 have hlim:=hJ.lim
 have hturn:Turn b (b.do_ ⟨1,1,0,0, []⟩).1 1 (t10 b).tch { b.cor 1 with tak:=upd (b.cor 1).tak 0 t',runs:=if d=true then none else some (.tak 0) }:=
  ⟨hnw.2.1,hnw.2.2.1,hnw.1,hsc,hc,by rw [hdi];split<;>simp [Bd.finT]⟩
 have hgens:∀j,(t10 b).tab.gens.getD j 0<65535:=fun j=>by
  rw [List.getD_eq_getElem?_getD]
  cases hgg:(t10 b).tab.gens[j]? with
  | none=>simp
  | some v=>have:=hm.gens v (List.mem_of_getElem? hgg);simp only [Option.getD_some];omega
 refine ⟨⟨hcalm.1,hcalm.2.1,hcalm.2.2.1,hcalm.2.2.2, ?_, ?_, ?_, ?_⟩,hg',hc0,d,e,t'.gotR, ?_, ?_,hdi, ?_, ?_⟩
 ·rw [hg'];exact h.g4
 ·rw [ht']
  cases d with
  | true=>have:=(hT.1 rfl).2.1;omega
  | false=>exact (hT.2 rfl).2.1
 ·rw [hg',hturn.av]
  rw [av_tch hI (c:=1) (by omega) (by omega) (by omega) (by omega) (by omega) _]
  exact h.x2
 ·rw [ht',hturn.bv]
  intro v hv
  have hnxt:t'.used=(t10 b).used∨d=true∧(t10 b).pc=14∧t'.used=(t10 b).used+1∧G.ulog.length=(t10 b).used+1:=by
   cases d with
   | true=>
    obtain ⟨q1,q2,q3⟩:=hT.1 rfl
    rcases q3 with q3|q3|q3
    ·exact .inr ⟨rfl,q1,q3.2.2.1,q3.2.2.2.2.2⟩
    ·exact .inl q3.2.2.2.1
    ·exact .inl q3.2.2.1
   | false=>exact .inl (hT.2 rfl).2.2.2.2.1
  cases hst:(t10 b).stores with
  | false=>
   have hside:=tch_idle (v:=tview (chanBase b.n b.ring 0 1) b.ring) (most:=b.most) (c:=1) (s:=b.sc) (W:=isT (chanBase b.n b.ring 0 1) b.ring) (tview_looks _ _) (t10 b).tch (fun a y q=>absurd q (tak_ld hm.tak.pc hpc0 hst a y))
   rcases hnxt with q|⟨q1,q2,q3,q4⟩
   ·rw [q];exact h.x1 v (sideTo_mem hside v hv)
   ·have htc:(t10 b).tch= .ep (t10 b).peer:=by simp [Tak.tch,q2]
    rw [htc] at hv
    have hv:v∈(sts (applyAll b.sc.m (b.sc.q 1)) (upd b.sc.q 1 [] 1)).map (tview (chanBase b.n b.ring 0 1) b.ring):=hv
    rw [upd_same] at hv
    simp only [sts,List.map_cons,List.map_nil,List.mem_singleton] at hv
    have hz2:z=tview (chanBase b.n b.ring 0 1) b.ring (applyAll b.sc.m (b.sc.q 1)):=by
     have:(b.bv 0 1).getLast? = some (tview (chanBase b.n b.ring 0 1) b.ring (applyAll b.sc.m (b.sc.q 1))):=by
      unfold Bd.bv
      rw [List.getLast?_map,sts_last];rfl
     rw [hz] at this
     injection this
    rw [hv, ←hz2,q3,hzui,q4]
    exact Nat.le_refl _
  | true=>
   have htc:=Tak.tch_st _ hst
   obtain ⟨l1,q1,q2,q3⟩:=tch_put (most:=b.most) (c:=1) (s:=b.sc) (v:=tview (chanBase b.n b.ring 0 1) b.ring) (t10 b).stA.1 (t10 b).stA.2
   rw [htc,q3] at hv
   have hput:=(tview_put _ hm.tak hst (applyAll b.sc.m (b.sc.q 1))).1
   rw [hm.tbase,hm.tring] at hput
   have hput:tview (chanBase b.n b.ring 0 1) b.ring (upd (applyAll b.sc.m (b.sc.q 1)) (t10 b).stA.1 (t10 b).stA.2)=(t10 b).put (tview (chanBase b.n b.ring 0 1) b.ring (applyAll b.sc.m (b.sc.q 1))):=hput
   rw [hput] at hv
   have hz2:(b.bv 0 1).getLast? = some (tview (chanBase b.n b.ring 0 1) b.ring (applyAll b.sc.m (b.sc.q 1))):=q2
   rw [hz] at hz2
   injection hz2 with hz2
   rw [←hz2] at hv
   have hsame:t'.used=(t10 b).used:=by
    rcases hnxt with q|⟨q1,q2,_⟩
    ·exact q
    ·rw [hst_of (by omega)] at hst;cases hst
   rw [hsame]
   rcases List.mem_append.1 hv with hv|hv
   ·exact h.x1 v (q1.subset hv)
   ·rw [List.mem_singleton.1 hv]
    unfold Tak.put
    rw [if_neg p2,if_neg p3]
    split
    ·exact hzx
    ·split
     ·show (t10 b).used≤((t10 b).used+1)%65536
      omega
     ·exact hzx
 ·rw [hc,upd_same]
 ·rw [hc,upd_same]
 ·intro hdt
  subst hdt
  rw [ht']
  obtain ⟨q1,q2,q3⟩:=hT.1 rfl
  refine ⟨q2, ?_⟩
  rcases q3 with q3|q3|q3
  ·exact .inl ⟨q3.1,q3.2.1,q3.2.2.1,q3.2.2.2.1,fun j=>by rw [q3.2.2.2.2.1];exact hheld j,by simp [trank,q1,q3.1]⟩
  ·obtain ⟨r1,r2,r3,r4,r5,r6,r7⟩:=q3
   have htn:(t10 b).tab.n=(b.ring:Int):=hti.wf.tabn
   obtain ⟨y1,y2,y3,y4⟩:=give_good hm.tak.tab htn r5 hheld (hgens _)
   have hgo:t'.gotR.2=(Grants.giveR (t10 b).tab (t10 b).d).2.1:=by
    unfold Tak.gotR
    rw [if_pos ⟨q2,by rw [r7];exact y1⟩,r7]
   refine .inr (.inl ⟨r1,r2,r4,r3,by rw [hgo,r6];exact y2,fun j hj=> ?_⟩)
   rw [hgo,y3]
   rw [r6] at hj
   exact y4 j hj
  ·refine .inr (.inr ⟨q3.1,q3.2.1,q3.2.2.1,q3.2.2.2.1,fun j=>by rw [q3.2.2.2.2];exact hheld j, ?_⟩)
   have ha:=hti.wf.ans q1
   have hne:(t10 b).answer≠0:=by
    intro q
    cases hs with
    | told r s m=>exact m q
    | reset r s=>have:=q3.2.1;omega
    | freed r s m n=>rw [q3.1] at n;cases n
    | came r s m n=>have:=q3.2.1;omega
    | settle r=>omega
    | down r s=>omega
   simp [trank,q1,q3.1,hne]
 ·intro q
  rw [ht']
  obtain ⟨q1,q2,q3,q4,q5,q6,q7⟩:=hT.2 q
  exact ⟨q1,q3,q5,q4,fun j=>by rw [q6];exact hheld j,q7⟩
end
end Go.Proofs.YtaaffebnajjfhaaGreatDoor.T
