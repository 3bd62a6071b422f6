/- Texts of this proof, merged: ChanJ. -/
import Derived.Test.YtaaffebnajjfhaaGreatDoorH09
namespace Go.Proofs.YtaaffebnajjfhaaGreatDoor.T
set_option linter.unusedVariables false
set_option linter.unusedSimpArgs false
set_option linter.unusedSectionVars false
open Go.RowKit
theorem Giv.ep_of {a b R:Nat} {g:Giv} (h:GWf a b R g) (hV:a+b<60000) (h0:0≤g.known):g.ep=a+g.known∧(g.ep.toNat:Int)=a+g.known:=by
 have h1:=h.own
 have h2:=h.kn
 unfold Giv.ep
 omega
section
variable {a b R hd tl:Nat} {z:GV} {A A1:List GV} {B:List TV} {log:Log} {ulog H:List Nat} {g g':Giv} {w e:Int} {d:Bool} {u:TV}
theorem GInv.sub (h:GInv a b R A z B log ulog H hd tl g) (hs:List.Sublist A1 A):GInv a b R A1 z B log ulog H hd tl g:=
 ⟨h.wf,fun q v hv=>h.low q v (hs.subset hv),h.mrk,h.hi,h.out0,h.inn⟩
theorem GInv.quiet (hR:1≤R) (hV:a+b<60000) (hU:ulog.length<60000) (hN:log.length<60000) (hB:BInv (a+b) R B ulog tl) (h:GInv a b R A z B log ulog H hd tl g) (hz:z∈A) (h0:g.pc≠0) (hs:GStep g w g' d e) (hst:g.stores=false)
  (hu:u∈B) (hm:∀x∈B,u.ce=a+b→x.ce=a+b∧u.ui≤x.ui) (h1:g.pc=1∨g.pc=15→w=(b:Int)) (h5:g.pc=5→w=(u.ce:Int)) (h6:g.pc=6→w=(u.ui:Int)) (h7:g.pc=7→w=(u.used (g.tail%R):Int)):
  ∃tl',BInv (a+b) R B ulog tl'∧GInv a b R A z B log ulog H hd tl' g':=by
 have hwf:GWf a b R g':=h.wf.go hs (fun q=>by have:=h1 (.inl q);omega)
 by_cases hi:g.inn b
 ·obtain ⟨tl',hle,hin⟩:=(h.inn hi).quiet hR hU hN hB h.wf.ring h.wf hi hs hst hu hm h1 h6 h7
  have hi':g'.inn b:=by
   obtain ⟨i1,i2,i3,i4,i5⟩:=hi
   have:=h.wf.wf5
   have h1':=h1
   have h2:=h.wf.pcm
   cases hs<;>simp only [Giv.inn,Giv.stores,Bool.or_eq_false_iff,decide_eq_false_iff_not] at * <;> first|omega|grind
  have hh:=h.hi hi.2.1 hi.2.2.1 hi.2.2.2.1
  exact ⟨tl',hB.tail hle,hwf,fun q=>absurd hi'.2.1 (by rcases q with q|q|q;exact q;exact absurd q hi'.2.2.1;exact absurd q hi'.2.2.2.1),fun _ q=>absurd q hi'.2.2.2.1,fun _ _ _=>hh,fun q=>absurd hi' q,fun _=>hin⟩
 ·obtain ⟨o1,o2,o3,o4⟩:=h.out0 hi
  by_cases hk:g.pc=5∧w=g.ep∧g.known=(b:Int)
  ·obtain ⟨k1,k2,k3⟩:=hk
   have hl:=h.wf.wf5 k1
   obtain ⟨f1,f2,f3,f4⟩:=h.wf.wfF hl
   have hh:=h.hi k3 (by omega) (by omega)
   have hep:=(Giv.ep_of h.wf hV (by omega)).1
   have huce:u.ce=a+b:=by have:=h5 k1;omega
   refine ⟨0, ?_, ?_⟩
   ·subst o2
    refine ⟨hB.le,hB.mono,hB.most,fun v hv hv2 k _ hk=> ?_⟩
    have:=hB.most v hv hv2
    simp at this
    omega
   ·cases hs with
    | link q r=>
     refine ⟨hwf,by simp only;omega,by simp,fun _ _ _=>hh,fun q=>absurd ⟨rfl,k3,by simp,by simp,by simp⟩ q,fun _=> ?_⟩
     subst o1 o2 o3
     refine ⟨?_, ?_, ?_,f4,Nat.le_refl _,fun x hx=>⟨(hm x hx huce).1,Nat.zero_le _⟩, ?_, ?_, ?_, ?_, ?_, ?_, ?_⟩
     ·simp [f1,f2]
     ·simp [f2,Giv.cur]
     ·simp [f3,Giv.shown]
     all_goals simp [Giv.shown]
    | _=>omega
  ·refine ⟨tl,hB, ?_⟩
   have hi': ¬g'.inn b:=by
    have:=h.wf.wf6
    have h2:=h.wf.pcm
    cases hs<;>simp only [Giv.inn,Giv.stores,Bool.or_eq_false_iff,decide_eq_false_iff_not] at * <;> grind
   refine ⟨hwf, ?_, ?_, ?_,fun _=>h.out0 hi,fun q=>absurd q hi'⟩
   ·have hl:=h.low
    have h2:=h.wf.pcm
    cases hs<;>simp only [Giv.inn,Giv.stores,Bool.or_eq_false_iff,decide_eq_false_iff_not] at * <;> grind
   ·have hl:=h.mrk
    have h2:=h.wf.pcm
    cases hs<;>simp only [Giv.inn,Giv.stores,Bool.or_eq_false_iff,decide_eq_false_iff_not] at * <;> grind
   ·have hl:=h.hi
    have h2:=h.wf.pcm
    cases hs<;>simp only [Giv.inn,Giv.stores,Bool.or_eq_false_iff,decide_eq_false_iff_not] at * <;> grind
theorem GInv.store {A':List GV} (hV:a+b<60000) (hN:log.length<60000) (hA:AInv (a+b) R A log hd) (hhd:hd≤log.length) (h:GInv a b R A z B log ulog H hd tl g) (hz:z∈A) (hzm:∀x∈A,x.pe=a+b→z.pe=a+b∧x.ai≤z.ai) (hs:GStep g w g' d e) (hst:g.stores=true) (hA':List.Sublist A' A):
  ∃log',(log'=log∨g.inn b∧g.pc=12∧log'=log ++ [(g.d,g.load)])∧AInv (a+b) R (A' ++ [g.put z]) log' hd∧GInv a b R (A' ++ [g.put z]) (g.put z) B log' ulog H hd tl g'∧(∀x∈A,x.pe=a+b→(g.put z).pe=a+b∧x.ai≤(g.put z).ai):=by
 have hp:g.pc=2∨g.pc=3∨g.pc=8∨g.pc=9∨g.pc=10∨g.pc=12:=by
  simp only [Giv.stores,Bool.or_eq_true,decide_eq_true_eq] at hst
  omega
 have hwf:GWf a b R g':=h.wf.go hs (fun q=>by omega)
 by_cases hi:g.inn b
 ·have h8:8≤g.pc:=by have:=hi.2.2;omega
  have hh:=h.hi hi.2.1 hi.2.2.1 hi.2.2.2.1
  obtain ⟨log',hl,hin,q1,q2,q3,q4⟩:=(h.inn hi).store hN h.wf.ring hA hz hh.1 hh.2 hhd h8 hs hst
  have hall:∀x∈A,x.pe=a+b→(g.put z).pe=a+b∧x.ai≤(g.put z).ai:=fun x hx hx2=>⟨q1,Nat.le_trans (hzm x hx hx2).2 q3⟩
  have hi':g'.inn b:=by
   obtain ⟨i1,i2,i3,i4,i5⟩:=hi
   cases hs<;>simp only [Giv.inn] at * <;> grind
  have hAl:AInv (a+b) R A log' hd:=by
   rcases hl with hl|⟨_,hl⟩
   ·rw [hl];exact hA
   ·rw [hl];exact hA.grow _
  refine ⟨log', ?_, ?_,⟨hwf,fun q=>absurd hi'.2.1 (by rcases q with q|q|q;exact q;exact absurd q hi'.2.2.1;exact absurd q hi'.2.2.2.1),fun _ q=>absurd q hi'.2.2.2.1,fun _ _ _=>⟨q1,q2⟩,fun q=>absurd hi' q,fun _=>hin⟩,hall⟩
  ·rcases hl with hl|hl
   ·exact .inl hl
   ·exact .inr ⟨hi,hl⟩
  ·exact (hAl.sub hA').push (Nat.le_of_eq q1) (fun x hx hx2=>hall x (hA'.subset hx) hx2) (fun _=>Nat.le_of_eq q2) (fun _=>q4)
 ·obtain ⟨o1,o2,o3,o4⟩:=h.out0 hi
  have hi': ¬g'.inn b:=by
   have:=h.wf.wf6
   cases hs<;>simp only [Giv.inn] at * <;> grind
  have hlow:g.known≠(b:Int)∨g.pc=2∨g.pc=3:=by
   have:=h.wf.wf6
   by_cases hk:g.known=(b:Int)
   ·by_cases h8:8≤g.pc
    ·exact absurd ⟨this (by omega),hk,by omega,by omega,by omega⟩ hi
    ·omega
   ·exact .inl hk
  have hlo:=h.low hlow
  have hk0:0≤g.known:=by have:=h.wf.kn0;omega
  have hep:=(Giv.ep_of h.wf hV hk0).2
  have hall:∀x∈A,x.pe=a+b→(g.put z).pe=a+b∧x.ai≤(g.put z).ai:=fun x hx hx2=>by have:=hlo x hx;omega
  have hzlo:=hlo z hz
  have hk:=h.wf.kn
  have hpe:(g.put z).pe≤a+b∧(g.known≠(b:Int)∨g.pc=2→(g.put z).pe<a+b)∧(g.known=(b:Int)→g.pc=3→(g.put z).pe=a+b∧(g.put z).ai=0)∧(g.pc=2→(g.put z).ai=0):=by
   have hm:=h.mrk
   rcases hp with p|p|p|p|p|p<;>simp only [Giv.put,p]<;>simp<;>omega
  refine ⟨log, .inl rfl, ?_,⟨hwf, ?_, ?_, ?_,fun _=>⟨o1,o2,o3,o4⟩,fun q=>absurd q hi'⟩,hall⟩
  ·refine (hA.sub hA').push hpe.1 (fun x hx hx2=>hall x (hA'.subset hx) hx2) (fun q=> ?_) (fun q k _ hk2=> ?_)
   ·by_cases h3:g.known=(b:Int)∧g.pc=3
    ·rw [(hpe.2.2.1 h3.1 h3.2).2];exact Nat.zero_le _
    ·exfalso
     have:=hpe.2.1 (by omega)
     omega
   ·by_cases h3:g.known=(b:Int)∧g.pc=3
    ·rw [(hpe.2.2.1 h3.1 h3.2).2] at hk2;omega
    ·exfalso
     have:=hpe.2.1 (by omega)
     omega
  ·intro q v hv
   rcases List.mem_append.1 hv with hv|hv
   ·exact hlo v (hA'.subset hv)
   ·rw [List.mem_singleton.1 hv]
    refine hpe.2.1 ?_
    cases hs<;>simp only at * <;> omega
  ·intro q1 q2
   refine hpe.2.2.2 ?_
   cases hs<;>simp only at * <;> omega
  ·intro q1 q2 q3
   have h3:g.known=(b:Int)∧g.pc=3:=by cases hs<;>simp only at * <;> omega
   rw [o1]
   exact ⟨(hpe.2.2.1 h3.1 h3.2).1,(hpe.2.2.1 h3.1 h3.2).2⟩
end
end Go.Proofs.YtaaffebnajjfhaaGreatDoor.T
