/- Texts of this proof, merged: ChanU, ChanV, ChanW, ChanX, ChanD, ChanE. -/
import Derived.Test.YtaaffebnajjfhaaGreatDoorH20
import Derived.Test.YtaaffebnajjfhaaGreatDoorH19
namespace Go.Proofs.YtaaffebnajjfhaaGreatDoor.T
set_option linter.unusedVariables false
set_option linter.unusedSimpArgs false
set_option linter.unusedSectionVars false
open Go.RowKit
theorem Tak.ep_of {a b R:Nat} {t:Tak} (h:TWf a b R t) (hV:a+b<60000) (h0:0≤t.known):t.ep=b+t.known∧(t.ep.toNat:Int)=b+t.known:=by
 have h1:=h.own
 have h2:=h.kn
 unfold Tak.ep
 omega
theorem holds_nodup (t:Tak):t.holds.Nodup:=List.Pairwise.filter _ List.nodup_range
theorem holds_mem (t:Tak) (x:Nat):x∈t.holds ↔ x<t.ring∧t.tab.held.getD x false=true:=by
 unfold Tak.holds
 simp
theorem getD_set_bool (l:List Bool) (i j:Nat) (x:Bool) (h:i<l.length):(l.set i x).getD j false=if j=i then x else l.getD j false:=by
 simp only [List.getD_eq_getElem?_getD,List.getElem?_set]
 by_cases e:i=j
 ·subst e;simp [h]
 ·rw [if_neg e,if_neg (Ne.symm e)]
theorem holds_give {t t':Tak} {d:Nat} (hr:t'.ring=t.ring) (hd:d<t.ring) (hR:t.ring≤t.tab.held.length) (h0:t.tab.held.getD d false=false) (ht:t'.tab.held=t.tab.held.set d true):t'.holds.Perm (d :: t.holds):=by
 refine (List.perm_ext_iff_of_nodup (holds_nodup _) ?_).2 ?_
 ·rw [List.nodup_cons]
  exact ⟨fun h=>by rw [holds_mem,h0] at h;simp at h,holds_nodup _⟩
 ·intro x
  rw [List.mem_cons,holds_mem,holds_mem,hr,ht,getD_set_bool _ _ _ _ (by omega)]
  by_cases e:x=d
  ·subst e;simp [hd]
  ·simp [e]
theorem holds_drop {t t':Tak} {d:Nat} (hr:t'.ring=t.ring) (hd:d<t.ring) (hR:t.ring≤t.tab.held.length) (h0:t.tab.held.getD d false=true) (ht:t'.tab.held=t.tab.held.set d false):t.holds.Perm (d :: t'.holds):=by
 refine (List.perm_ext_iff_of_nodup (holds_nodup _) ?_).2 ?_
 ·rw [List.nodup_cons]
  exact ⟨fun h=>by rw [holds_mem,ht,getD_set_bool _ _ _ _ (by omega)] at h;simp at h,holds_nodup _⟩
 ·intro x
  rw [List.mem_cons,holds_mem,holds_mem,hr,ht,getD_set_bool _ _ _ _ (by omega)]
  by_cases e:x=d
  ·subst e;rw [h0];simp [hd]
  ·simp [e]
theorem idx_neg {xs:List Int} {x:Int} (h:idx xs x<0):x ∉ xs:=by
 intro hx
 unfold idx at h
 cases hf:xs.findIdx? (· == x) with
 | none=>
  rw [List.findIdx?_eq_none_iff] at hf
  have:=hf x hx
  simp at this
 | some k=>rw [hf] at h;simp at h;omega
theorem held_mem (k:Grants.Tb) (x:Nat):(x:Int)∈Grants.heldR k ↔ x<k.n.toNat∧k.held.getD x false=true:=by
 unfold Grants.heldR Grants.heldTo
 rw [List.mem_map]
 constructor
 ·rintro ⟨y,hy,e⟩
  rw [List.mem_filter,List.mem_range] at hy
  have e:y=x:=by omega
  subst e
  exact hy
 ·intro h
  exact ⟨x,by rw [List.mem_filter,List.mem_range];exact h,rfl⟩
section
variable {a b R hd:Nat} {z:TV} {A:List GV} {B B1:List TV} {log:Log} {ulog H:List Nat} {t t':Tak} {w e:Int} {d:Bool} {v:GV}
theorem TIn.quiet (hR:R≤64) (hU:ulog.length<60000) (hN:log.length<60000) (hA:AInv (a+b) R A log hd) (h:TIn (a+b) R A z log ulog H hd t) (hw:TWf a b R t) (hi:t.inn a) (hs:TStep t w t' d e) (hst:t.stores=false)
  (hv:v∈A) (hm:∀x∈A,v.pe=a+b→x.pe=a+b∧v.ai≤x.ai) (h1:t.pc=1∨t.pc=14→w=(a:Int)) (h6:t.pc=6→w=(v.ai:Int)) (h7:t.pc=7→w=(v.avail (t.head%R):Int)) (h8:t.pc=8→w=(v.len t.d:Int)) (h9:t.pc=9→w=(v.load t.d t.load.length:Int)):
  ∃hd' H',(hd'=hd∧H'=H∧ ¬(t.read∧d=true)∨t.read∧d=true∧e=0∧hd<log.length∧hd'=hd+1∧H'=H ++ [(log.getD hd (0, [])).1])∧TIn (a+b) R A z log ulog H' hd' t':=by
 have hvp:=h.pe v hv
 have hvm:=hA.most v hv hvp
 have hvo:=hA.ok v hv hvp hd (Nat.le_refl _)
 have hle:=h.hle v hv
 have hrr:=hw.ring
 have hmm:∀x∈A,v.ai≤x.ai:=fun x hx=>(hm x hx hvp).2
 cases hs with
 | askNew p q=>exact absurd (h1 (.inl p)) (by rw [←hi.2.1];exact q)
 | askBack p q r s=>
  refine ⟨hd,H, .inl ⟨rfl,rfl,by simp⟩, ?_⟩
  obtain ⟨pe,hle,head,HH,used,ai,d8,w9,w14,b11⟩:=h
  refine ⟨pe,hle,head, ?_, ?_, ?_, ?_, ?_, ?_, ?_⟩
  ·simpa [Tak.rel,s,p,Tak.holds] using HH
  ·simpa [Tak.told,p] using used
  all_goals simp [Tak.read]
 | askLook p q r s=>
  refine ⟨hd,H, .inl ⟨rfl,rfl,by simp⟩, ?_⟩
  obtain ⟨pe,hle,head,HH,used,ai,d8,w9,w14,b11⟩:=h
  refine ⟨pe,hle,head, ?_, ?_, ?_, ?_, ?_, ?_, ?_⟩
  ·simpa [Tak.rel,s,p,Tak.holds] using HH
  ·simpa [Tak.told,p,s] using used
  all_goals simp [Tak.read]
 | askLink p q r=>exact absurd hi.1 (by simp [r])
 | settle p=>exact absurd p hi.2.2.2.2
 | down p q=>exact absurd (hw.wf5 p) (by simp [hi.1])
 | link p q=>exact absurd (hw.wf5 p) (by simp [hi.1])
 | noLook x p q r s=>
  have hb:=hw.nb (by omega) (by omega)
  refine ⟨hd,H, .inl ⟨rfl,rfl,by simp⟩, ?_⟩
  obtain ⟨pe,hle,head,HH,used,ai,d8,w9,w14,b11⟩:=h
  refine ⟨pe,hle,head, ?_, ?_, ?_, ?_, ?_, ?_, ?_⟩
  ·simpa [Tak.rel,hb,Tak.holds] using HH
  ·simpa [Tak.told,hb] using used
  all_goals simp [Tak.read,r]
 | look p q=>
  have hb:=hw.nb (by omega) (by omega)
  refine ⟨hd,H, .inl ⟨rfl,rfl,by simp⟩, ?_⟩
  have hlt:hd<v.ai:=by
   have:=h6 p
   have:=h.head
   rcases Nat.lt_or_ge hd v.ai with hh|hh
   ·exact hh
   ·exfalso;apply q;have:v.ai=hd:=by omega
    omega
  obtain ⟨pe,hle,head,HH,used,ai,d8,w9,w14,b11⟩:=h
  refine ⟨pe,hle,head, ?_, ?_,fun _ x hx=>Nat.lt_of_lt_of_le hlt (hmm x hx), ?_, ?_, ?_, ?_⟩
  ·simpa [Tak.rel,hb,Tak.holds] using HH
  ·simpa [Tak.told,hb] using used
  all_goals simp [Tak.read]
 | badSlot p q=>
  have hb:=hw.nb (by omega) (by omega)
  refine ⟨hd,H, .inl ⟨rfl,rfl,by simp⟩, ?_⟩
  obtain ⟨pe,hle,head,HH,used,ai,d8,w9,w14,b11⟩:=h
  refine ⟨pe,hle,head, ?_, ?_, ?_, ?_, ?_, ?_, ?_⟩
  ·simpa [Tak.rel,hb,Tak.holds] using HH
  ·simpa [Tak.told,hb] using used
  all_goals simp [Tak.read]
 | slot p q r=>
  have hb:=hw.nb (by omega) (by omega)
  refine ⟨hd,H, .inl ⟨rfl,rfl,by simp⟩, ?_⟩
  have hlt:=h.ai (.inl ⟨by omega,by omega⟩)
  have hst:=hvo (hlt v hv)
  have hw7:=h7 p
  have hwd:w.toNat=(log.getD hd (0, [])).1:=by rw [hw7,h.head,Int.toNat_natCast];exact hst.1
  have hnh:t.tab.held.getD w.toNat false=false:=by
   have:=idx_neg r
   have hh:=held_mem t.tab w.toNat
   have hww:((w.toNat:Nat):Int)=w:=by omega
   rw [hww] at hh
   have h2:=hw.tabn
   by_cases hx:t.tab.held.getD w.toNat false=true
   ·exact absurd (hh.2 ⟨by omega,hx⟩) this
   ·simpa using hx
  obtain ⟨pe,hle,head,HH,used,ai,d8,w9,w14,b11⟩:=h
  refine ⟨pe,hle,head, ?_, ?_,fun _=>hlt,fun _=>⟨hwd,by show w.toNat<R;omega,hnh⟩, ?_, ?_, ?_⟩
  ·simpa [Tak.rel,hb,Tak.holds] using HH
  ·simpa [Tak.told,hb] using used
  all_goals simp [Tak.read]
 | badSize p q=>
  have hb:=hw.nb (by omega) (by omega)
  refine ⟨hd,H, .inl ⟨rfl,rfl,by simp⟩, ?_⟩
  obtain ⟨pe,hle,head,HH,used,ai,d8,w9,w14,b11⟩:=h
  refine ⟨pe,hle,head, ?_, ?_, ?_, ?_, ?_, ?_, ?_⟩
  ·simpa [Tak.rel,hb,Tak.holds] using HH
  ·simpa [Tak.told,hb] using used
  all_goals simp [Tak.read]
 | size p' p q hp=>
  have hb:=hw.nb (by omega) (by omega)
  have hl:=hw.emp (by omega) (by omega)
  refine ⟨hd,H, .inl ⟨rfl,rfl,by simp⟩, ?_⟩
  have hlt:=h.ai (.inl ⟨by omega,by omega⟩)
  have hst:=hvo (hlt v hv)
  have hd8:=h.d8 (.inl ⟨by omega,by omega⟩)
  have hw8:w.toNat=(log.getD hd (0, [])).2.length:=by rw [h8 p,hd8.1,Int.toNat_natCast];exact hst.2.1
  obtain ⟨pe,hle,head,HH,used,ai,d8,w9,w14,b11⟩:=h
  refine ⟨pe,hle,head, ?_, ?_,fun _=>hlt,fun _=>hd8, ?_, ?_, ?_⟩
  ·simpa [Tak.rel,hb,Tak.holds] using HH
  ·simpa [Tak.told,hb] using used
  ·intro e9
   refine ⟨hw8,by simp [hl], ?_⟩
   show t.load.length<w.toNat
   have e9:p'=9:=e9
   omega
  ·intro hrd
   have e14:p'=14:=hrd.1
   show t.load=_
   rw [hl] at hp ⊢
   have:(log.getD hd (0, [])).2.length=0:=by simp at hp;omega
   exact (List.eq_nil_of_length_eq_zero this).symm
  ·simp only;omega
 | word p' p hp=>
  have hb:=hw.nb (by omega) (by omega)
  refine ⟨hd,H, .inl ⟨rfl,rfl,by simp⟩, ?_⟩
  have hlt:=h.ai (.inl ⟨by omega,by omega⟩)
  have hst:=hvo (hlt v hv)
  have hd8:=h.d8 (.inl ⟨by omega,by omega⟩)
  have hw9:=h.w9 p
  have hwv:w.toNat=(log.getD hd (0, [])).2.getD t.load.length 0:=by
   rw [h9 p,hd8.1,Int.toNat_natCast]
   exact hst.2.2 _ (by omega)
  have hll:t.load ++ [w.toNat]=(log.getD hd (0, [])).2.take (t.load.length+1):=by
   have hlen:t.load.length<(log.getD hd (0, [])).2.length:=by omega
   have h2:=hw9.2.1
   generalize (log.getD hd (0, [])).2=ll at hlen h2 hwv ⊢
   rw [List.take_succ_eq_append_getElem hlen, ←h2,hwv]
   simp [List.getD,hlen]
  obtain ⟨pe,hle,head,HH,used,ai,d8,w9,w14,b11⟩:=h
  refine ⟨pe,hle,head, ?_, ?_,fun _=>hlt,fun _=>hd8, ?_, ?_, ?_⟩
  ·simpa [Tak.rel,hb,Tak.holds] using HH
  ·simpa [Tak.told,hb] using used
  ·intro e9
   have e9:p'=9:=e9
   refine ⟨hw9.1, ?_, ?_⟩
   ·show t.load ++ [w.toNat]=_
    rw [hll];simp
   ·show (t.load ++ [w.toNat]).length<t.many
    simp;omega
  ·intro hrd
   have e14:p'=14:=hrd.1
   show t.load ++ [w.toNat]=_
   rw [hll,List.take_of_length_le (by omega)]
  ·simp only;omega
 | flush p=>
  have hb:=hw.yb (by omega) (by omega)
  refine ⟨hd,H, .inl ⟨rfl,rfl,by simp⟩, ?_⟩
  obtain ⟨pe,hle,head,HH,used,ai,d8,w9,w14,b11⟩:=h
  refine ⟨pe,hle,head, ?_, ?_, ?_, ?_, ?_, ?_, ?_⟩
  ·simpa [Tak.rel,hb,p,Tak.holds] using HH
  ·simpa [Tak.told,hb,p] using used
  all_goals simp [Tak.read,hb]
 | reset p q=>exact absurd (h1 (.inr p)) (by rw [←hi.2.1];exact q)
 | told p q r=>
  have hb:t.back=false:=by rcases hw.ans p with h|h;exact absurd h r;exact h.1
  refine ⟨hd,H, .inl ⟨rfl,rfl,fun hh=>r hh.1.2.2⟩, ?_⟩
  obtain ⟨pe,hle,head,HH,used,ai,d8,w9,w14,b11⟩:=h
  refine ⟨pe,hle,head, ?_, ?_, ?_, ?_, ?_, ?_, ?_⟩
  ·simpa [Tak.rel,hb,Tak.holds] using HH
  ·simpa [Tak.told,hb] using used
  all_goals simp [Tak.read]
 | freed p q r s=>
  refine ⟨hd,H, .inl ⟨rfl,rfl,fun hh=>by have:=hh.1.2.1;rw [s] at this;cases this⟩, ?_⟩
  obtain ⟨pe,hle,head,HH,used,ai,d8,w9,w14,b11⟩:=h
  refine ⟨pe,hle,head, ?_, ?_, ?_, ?_, ?_, ?_, ?_⟩
  ·simpa [Tak.rel,p,Tak.holds] using HH
  ·simp [Tak.told,p,s] at used ⊢
   omega
  all_goals simp [Tak.read]
 | came p q r s=>
  have hrd:t.read:=⟨p,s,r⟩
  have hlt:=h.ai (.inr hrd)
  have hd8:=h.d8 (.inr hrd)
  have hlv:=hlt v hv
  refine ⟨hd+1,H ++ [(log.getD hd (0, [])).1], .inr ⟨hrd,rfl,rfl,by omega,rfl,rfl⟩, ?_⟩
  have hgt:(Grants.giveR t.tab t.d).1.held=t.tab.held.set t.d true:=by
   have h2:=hw.tabn
   unfold Grants.giveR
   rw [if_pos ⟨by omega,by omega,by rw [Int.toNat_natCast];exact hd8.2.2⟩]
   simp [Grants.Tb.gen,Grants.Tb.hold]
  have hp:=holds_give (t:=t) (t':= { t with pc:=0,head:=(t.head+1)%65536,got:=(Grants.giveR t.tab t.d).2.1,tab:=(Grants.giveR t.tab t.d).1 }) rfl (by rw [hrr];exact hd8.2.1) (by rw [hw.tabl];omega) hd8.2.2 hgt
  obtain ⟨pe,hle,head,HH,used,ai,d8,w9,w14,b11⟩:=h
  refine ⟨pe,fun x hx=>hlt x hx, ?_, ?_, ?_, ?_, ?_, ?_, ?_, ?_⟩
  ·show (t.head+1)%65536=hd+1
   omega
  ·rw [←hd8.1]
   have e1:t.rel= []:=by simp [Tak.rel,s]
   rw [e1,List.append_nil] at HH
   have e2:({ t with pc:=0,head:=(t.head+1)%65536,got:=(Grants.giveR t.tab t.d).2.1,tab:=(Grants.giveR t.tab t.d).1 }:Tak).rel= []:=by simp [Tak.rel,s]
   rw [e2,List.append_nil]
   rw [List.perm_iff_count] at HH hp ⊢
   intro x
   have q1:=HH x
   have q2:=hp x
   simp only [List.count_append,List.count_cons,List.count_nil] at q1 q2 ⊢
   omega
  ·simpa [Tak.told,s] using used
  all_goals simp [Tak.read]
 | next p=>
  have p':t.pc=11:=by
   have:=hi.2.2
   simp only [Tak.stores,Bool.or_eq_false_iff,decide_eq_false_iff_not] at hst
   omega
  have hb:=hw.yb (by omega) (by omega)
  refine ⟨hd,H, .inl ⟨rfl,rfl,by simp⟩, ?_⟩
  obtain ⟨pe,hle,head,HH,used,ai,d8,w9,w14,b11⟩:=h
  refine ⟨pe,hle,head, ?_, ?_, ?_, ?_, ?_, ?_, ?_⟩
  ·simpa [Tak.rel,hb,p',Tak.holds] using HH
  ·simpa [Tak.told,hb,p'] using used
  ·simp only [Tak.read];omega
  ·simp only [Tak.read];omega
  ·simp only;omega
  ·simp only [Tak.read];omega
  ·intro _ _
   exact b11 (by omega) (by omega)
end
section
variable {a b R hd tl:Nat} {z:TV} {A:List GV} {B B1 B':List TV} {log:Log} {ulog H:List Nat} {t t':Tak} {w e:Int} {d:Bool} {v:GV}
theorem TIn.store (hU:ulog.length<60000) (hr:t.ring=R) (hB:BInv (a+b) R B ulog tl) (h:TIn (a+b) R A z log ulog H hd t) (hw:TWf a b R t) (hz:z∈B) (hzp:z.ce=a+b) (hza:z.ui=ulog.length) (hroom:t.pc=10→ulog.length-tl<R) (hi:4≤t.pc) (hs:TStep t w t' d e) (hst:t.stores=true):
  ∃ulog' H',(ulog'=ulog∧H'=H∧t.pc≠12∨t.pc=12∧ulog'=ulog ++ [t.d]∧H.Perm (t.d :: H'))∧TIn (a+b) R A (t.put z) log ulog' H' hd t'∧(t.put z).ce=a+b∧(t.put z).ui=ulog'.length∧z.ui≤(t.put z).ui∧∀k,tl≤k→k<(t.put z).ui→(t.put z).used (k%R)=ulog'.getD k 0:=by
 have hp:t.pc=10∨t.pc=12:=by
  simp only [Tak.stores,Bool.or_eq_true,decide_eq_true_eq] at hst
  omega
 have hok:=hB.ok z hz hzp
 have hb:=hw.yb (by omega) (by omega)
 obtain ⟨pe,hle,head,HH,used,ai,d8,w9,w14,b11⟩:=h
 have hto:t.told=0:=by rcases hp with p|p<;>simp [Tak.told,p]
 rw [hto] at used
 rcases hp with p|p
 ·have hput:t.put z= { z with used:=put1 z.used (t.used%t.ring) t.d }:=by simp [Tak.put,p]
  rw [hput]
  have hroom:=hroom p
  cases hs with
  | next q=>
   refine ⟨ulog,H, .inl ⟨rfl,rfl,by omega⟩,⟨pe,hle,head, ?_, ?_, ?_, ?_, ?_, ?_, ?_⟩,hzp,hza,Nat.le_refl _,fun k hk hk2=> ?_⟩
   ·simpa [Tak.rel,hb,p,Tak.holds] using HH
   ·simpa [Tak.told,hb,p] using used
   ·simp only [Tak.read];omega
   ·simp only [Tak.read];omega
   ·simp only;omega
   ·simp only [Tak.read];omega
   ·intro _ _
    show put1 _ _ _ _=_
    rw [hr]
    exact put1_same _ _ _
   ·have hk2:k<z.ui:=hk2
    show put1 _ _ _ _=_
    rw [hr,put1_other _ _ _ _ (mod_ne (by omega) (by omega))]
    exact hok k hk hk2
  | _=>omega
 ·have hput:t.put z= { z with ui:=(t.used+1)%65536 }:=by simp [Tak.put,p]
  rw [hput]
  cases hs with
  | next q=>
   have e1:t.rel= [t.d]:=by simp [Tak.rel,hb,p]
   rw [e1] at HH
   refine ⟨ulog ++ [t.d],t.holds, .inr ⟨p,rfl, ?_⟩,⟨pe,hle,head, ?_, ?_, ?_, ?_, ?_, ?_, ?_⟩,hzp, ?_, ?_,fun k hk hk2=> ?_⟩
   ·rw [List.perm_iff_count] at HH ⊢
    intro x
    have:=HH x
    simp only [List.count_append,List.count_cons,List.count_nil] at this ⊢
    omega
   ·simp [Tak.rel,hb,p,Tak.holds]
   ·rw [List.length_append]
    simp [Tak.told,hb,p]
    omega
   ·simp only [Tak.read];omega
   ·simp only [Tak.read];omega
   ·simp only;omega
   ·simp only [Tak.read];omega
   ·simp only;omega
   ·show (t.used+1)%65536=_
    rw [List.length_append]
    simp
    omega
   ·show _≤(t.used+1)%65536
    omega
   ·have hk2:k<(t.used+1)%65536:=hk2
    by_cases e:k=t.used
    ·rw [e,show t.used=ulog.length by omega,getD_last, ←show t.used=ulog.length by omega]
     exact b11 (by omega) (by omega)
    ·rw [getD_push _ _ _ _ (by omega)]
     exact hok k hk (by omega)
  | _=>omega
theorem TInv.sub (h:TInv a b R A B z log ulog H hd t) (hs:List.Sublist B1 B):TInv a b R A B1 z log ulog H hd t:=
 ⟨h.wf,fun q v hv=>h.low q v (hs.subset hv),h.mrk,h.hi,h.out0,h.inn⟩
theorem TInv.quiet (hR:R≤64) (hV:a+b<60000) (hU:ulog.length<60000) (hN:log.length<60000) (hA:AInv (a+b) R A log hd) (h:TInv a b R A B z log ulog H hd t) (hz:z∈B) (h0:t.pc≠0) (hs:TStep t w t' d e) (hst:t.stores=false)
  (hv:v∈A) (hm:∀x∈A,v.pe=a+b→x.pe=a+b∧v.ai≤x.ai) (h1:t.pc=1∨t.pc=14→w=(a:Int)) (h5:t.pc=5→w=(v.pe:Int)) (h6:t.pc=6→w=(v.ai:Int)) (h7:t.pc=7→w=(v.avail (t.head%R):Int)) (h8:t.pc=8→w=(v.len t.d:Int)) (h9:t.pc=9→w=(v.load t.d t.load.length:Int)):
  ∃hd' H',(hd'=hd∧H'=H∧ ¬(t.inn a∧t.read∧d=true)∨t.inn a∧t.read∧d=true∧e=0∧hd<log.length∧hd'=hd+1∧H'=H ++ [(log.getD hd (0, [])).1])∧TInv a b R A B z log ulog H' hd' t':=by
 have hwf:TWf a b R t':=h.wf.go hs (fun q=>by have:=h1 (.inl q);omega)
 by_cases hi:t.inn a
 ·obtain ⟨hd',H',hr,hin⟩:=(h.inn hi).quiet hR hU hN hA h.wf hi hs hst hv hm h1 h6 h7 h8 h9
  have hi':t'.inn a:=by
   obtain ⟨i1,i2,i3,i4,i5⟩:=hi
   have:=h.wf.wf5
   have h1':=h1
   have h2:=h.wf.pcm
   cases hs<;>simp only [Tak.inn,Tak.stores,Bool.or_eq_false_iff,decide_eq_false_iff_not] at * <;> first|omega|grind
  have hh:=h.hi hi.2.1 hi.2.2.1 hi.2.2.2.1
  refine ⟨hd',H', ?_,hwf,fun q=>absurd hi'.2.1 (by rcases q with q|q|q;exact q;exact absurd q hi'.2.2.1;exact absurd q hi'.2.2.2.1),fun _ q=>absurd q hi'.2.2.2.1,fun _ _ _=>hh,fun q=>absurd hi' q,fun _=>hin⟩
  rcases hr with ⟨r1,r2,r3⟩|r
  ·exact .inl ⟨r1,r2,fun q=>r3 q.2⟩
  ·exact .inr ⟨hi,r⟩
 ·obtain ⟨o2,o3,o4⟩:=h.out0 hi
  refine ⟨hd,H, .inl ⟨rfl,rfl,fun q=>hi q.1⟩, ?_⟩
  by_cases hk:t.pc=5∧w=t.ep∧t.known=(a:Int)
  ·obtain ⟨k1,k2,k3⟩:=hk
   have hl:=h.wf.wf5 k1
   obtain ⟨f1,f2,f3,f4⟩:=h.wf.wfF hl
   have hh:=h.hi k3 (by omega) (by omega)
   have hep:=(Tak.ep_of h.wf hV (by omega)).1
   have huce:v.pe=a+b:=by have:=h5 k1;omega
   have hb:=f4 h0
   cases hs with
   | link q r=>
    refine ⟨hwf,by simp only;omega,by simp,fun _ _ _=>hh,fun q=>absurd ⟨rfl,k3,by simp,by simp,by simp⟩ q,fun _=> ?_⟩
    subst o2 o3 o4
    have e1:({ t with linked:=true,pc:=6 }:Tak).holds= []:=by
     simp [Tak.holds,f1]
     intro x _
     have:=f1 x
     simpa [List.getD] using this
    refine ⟨fun x hx=>(hm x hx huce).1,fun _ _=>Nat.zero_le _,f2, ?_, ?_, ?_, ?_, ?_, ?_, ?_⟩
    ·rw [e1]
     simp [Tak.rel]
    ·simp [Tak.told,f3]
    all_goals simp [Tak.read]
   | _=>omega
  ·have hi': ¬t'.inn a:=by
    have:=h.wf.wf6
    have h2:=h.wf.pcm
    cases hs<;>simp only [Tak.inn,Tak.stores,Bool.or_eq_false_iff,decide_eq_false_iff_not] at * <;> grind
   refine ⟨hwf, ?_, ?_, ?_,fun _=>h.out0 hi,fun q=>absurd q hi'⟩
   ·have hl:=h.low
    have h2:=h.wf.pcm
    cases hs<;>simp only [Tak.inn,Tak.stores,Bool.or_eq_false_iff,decide_eq_false_iff_not] at * <;> grind
   ·have hl:=h.mrk
    have h2:=h.wf.pcm
    cases hs<;>simp only [Tak.inn,Tak.stores,Bool.or_eq_false_iff,decide_eq_false_iff_not] at * <;> grind
   ·have hl:=h.hi
    have h2:=h.wf.pcm
    cases hs<;>simp only [Tak.inn,Tak.stores,Bool.or_eq_false_iff,decide_eq_false_iff_not] at * <;> grind
theorem TInv.store (hV:a+b<60000) (hU:ulog.length<60000) (hB:BInv (a+b) R B ulog tl) (h:TInv a b R A B z log ulog H hd t) (hz:z∈B) (hzm:∀x∈B,x.ce=a+b→z.ce=a+b∧x.ui≤z.ui) (hroom:t.inn a→t.pc=10→ulog.length-tl<R) (hs:TStep t w t' d e) (hst:t.stores=true) (hB':List.Sublist B' B):
  ∃ulog' H',(ulog'=ulog∧H'=H∨t.inn a∧t.pc=12∧ulog'=ulog ++ [t.d]∧H.Perm (t.d :: H'))∧BInv (a+b) R (B' ++ [t.put z]) ulog' tl∧TInv a b R A (B' ++ [t.put z]) (t.put z) log ulog' H' hd t'∧(∀x∈B,x.ce=a+b→(t.put z).ce=a+b∧x.ui≤(t.put z).ui):=by
 have hp:t.pc=2∨t.pc=3∨t.pc=10∨t.pc=12:=by
  simp only [Tak.stores,Bool.or_eq_true,decide_eq_true_eq] at hst
  omega
 have hwf:TWf a b R t':=h.wf.go hs (fun q=>by omega)
 by_cases hi:t.inn a
 ·have h8:4≤t.pc:=by have:=hi.2.2;omega
  have hh:=h.hi hi.2.1 hi.2.2.1 hi.2.2.2.1
  obtain ⟨ulog',H',hl,hin,q1,q2,q3,q4⟩:=(h.inn hi).store hU h.wf.ring hB h.wf hz hh.1 hh.2 (hroom hi) h8 hs hst
  have hall:∀x∈B,x.ce=a+b→(t.put z).ce=a+b∧x.ui≤(t.put z).ui:=fun x hx hx2=>⟨q1,Nat.le_trans (hzm x hx hx2).2 q3⟩
  have hi':t'.inn a:=by
   obtain ⟨i1,i2,i3,i4,i5⟩:=hi
   cases hs<;>simp only [Tak.inn] at * <;> grind
  have hBl:BInv (a+b) R B ulog' tl:=by
   rcases hl with ⟨hl,_⟩|⟨_,hl,_⟩
   ·rw [hl];exact hB
   ·rw [hl];exact hB.grow _
  refine ⟨ulog',H', ?_, ?_,⟨hwf,fun q=>absurd hi'.2.1 (by rcases q with q|q|q;exact q;exact absurd q hi'.2.2.1;exact absurd q hi'.2.2.2.1),fun _ q=>absurd q hi'.2.2.2.1,fun _ _ _=>⟨q1,q2⟩,fun q=>absurd hi' q,fun _=>hin⟩,hall⟩
  ·rcases hl with hl|hl
   ·exact .inl ⟨hl.1,hl.2.1⟩
   ·exact .inr ⟨hi,hl⟩
  ·exact (hBl.sub hB').push (Nat.le_of_eq q1) (fun x hx hx2=>hall x (hB'.subset hx) hx2) (fun _=>Nat.le_of_eq q2) (fun _=>q4)
 ·obtain ⟨o2,o3,o4⟩:=h.out0 hi
  have hi': ¬t'.inn a:=by
   have:=h.wf.wf6
   cases hs<;>simp only [Tak.inn] at * <;> grind
  have hlow:t.known≠(a:Int)∨t.pc=2∨t.pc=3:=by
   have:=h.wf.wf6
   by_cases hk:t.known=(a:Int)
   ·by_cases h8:10≤t.pc
    ·exact absurd ⟨this (by omega),hk,by omega,by omega,by omega⟩ hi
    ·omega
   ·exact .inl hk
  have hlo:=h.low hlow
  have hk0:0≤t.known:=by have:=h.wf.kn0;omega
  have hep:=(Tak.ep_of h.wf hV hk0).2
  have hall:∀x∈B,x.ce=a+b→(t.put z).ce=a+b∧x.ui≤(t.put z).ui:=fun x hx hx2=>by have:=hlo x hx;omega
  have hzlo:=hlo z hz
  have hk:=h.wf.kn
  have hpe:(t.put z).ce≤a+b∧(t.known≠(a:Int)∨t.pc=2→(t.put z).ce<a+b)∧(t.known=(a:Int)→t.pc=3→(t.put z).ce=a+b∧(t.put z).ui=0)∧(t.pc=2→(t.put z).ui=0):=by
   have hm:=h.mrk
   rcases hp with p|p|p|p<;>simp only [Tak.put,p]<;>simp<;>omega
  refine ⟨ulog,H, .inl ⟨rfl,rfl⟩, ?_,⟨hwf, ?_, ?_, ?_,fun _=>⟨o2,o3,o4⟩,fun q=>absurd q hi'⟩,hall⟩
  ·refine (hB.sub hB').push hpe.1 (fun x hx hx2=>hall x (hB'.subset hx) hx2) (fun q=> ?_) (fun q k _ hk2=> ?_)
   ·by_cases h3:t.known=(a:Int)∧t.pc=3
    ·rw [(hpe.2.2.1 h3.1 h3.2).2];exact Nat.zero_le _
    ·exfalso
     have:=hpe.2.1 (by omega)
     omega
   ·by_cases h3:t.known=(a:Int)∧t.pc=3
    ·rw [(hpe.2.2.1 h3.1 h3.2).2] at hk2;omega
    ·exfalso
     have:=hpe.2.1 (by omega)
     omega
  ·intro q v hv
   rcases List.mem_append.1 hv with hv|hv
   ·exact hlo v (hB'.subset hv)
   ·rw [List.mem_singleton.1 hv]
    refine hpe.2.1 ?_
    cases hs<;>simp only at * <;> omega
  ·intro q1 q2
   refine hpe.2.2.2 ?_
   cases hs<;>simp only at * <;> omega
  ·intro q1 q2 q3
   have h3:t.known=(a:Int)∧t.pc=3:=by cases hs<;>simp only at * <;> omega
   rw [o2]
   exact ⟨(hpe.2.2.1 h3.1 h3.2).1,(hpe.2.2.1 h3.1 h3.2).2⟩
theorem TInv.pushA {A':List GV} {log':Log} (hA:AInv (a+b) R A log hd) (hne:A≠ []) (h:TInv a b R A B z log ulog H hd t) (hs:List.Sublist A' A) (hp:∀x∈A,x.pe=a+b→v.pe=a+b∧x.ai≤v.ai) (hl:log'=log∨∃x,log'=log ++ [x]):TInv a b R (A' ++ [v]) B z log' ulog H hd t:=by
 refine ⟨h.wf,h.low,h.mrk,h.hi,h.out0,fun hi=> ?_⟩
 obtain ⟨pe,hle,head,HH,used,ai,d8,w9,w14,b11⟩:=h.inn hi
 obtain ⟨x0,hx0⟩:=List.exists_mem_of_ne_nil A hne
 have hg:(∃y∈A,hd<y.ai)→log'.getD hd (0, [])=log.getD hd (0, []):=by
  rintro ⟨y,hy,hlt⟩
  rcases hl with hl|⟨x,hl⟩
  ·rw [hl]
  ·rw [hl,getD_push _ _ _ _ (Nat.lt_of_lt_of_le hlt (hA.most y hy (pe y hy)))]
 refine ⟨fun x hx=> ?_,fun x hx=> ?_,head,HH,used,fun q x hx=> ?_,fun q=> ?_,fun q=> ?_,fun q=> ?_,b11⟩
 ·rcases List.mem_append.1 hx with hx|hx
  ·exact pe x (hs.subset hx)
  ·rw [List.mem_singleton.1 hx];exact (hp x0 hx0 (pe x0 hx0)).1
 ·rcases List.mem_append.1 hx with hx|hx
  ·exact hle x (hs.subset hx)
  ·rw [List.mem_singleton.1 hx];exact Nat.le_trans (hle x0 hx0) (hp x0 hx0 (pe x0 hx0)).2
 ·rcases List.mem_append.1 hx with hx|hx
  ·exact ai q x (hs.subset hx)
  ·rw [List.mem_singleton.1 hx];exact Nat.lt_of_lt_of_le (ai q x0 hx0) (hp x0 hx0 (pe x0 hx0)).2
 ·rw [hg ⟨x0,hx0,ai (q.imp (fun q=>⟨by omega,q.2⟩) id) x0 hx0⟩];exact d8 q
 ·rw [hg ⟨x0,hx0,ai (.inl (by omega)) x0 hx0⟩];exact w9 q
 ·rw [hg ⟨x0,hx0,ai (.inr q) x0 hx0⟩];exact w14 q
theorem TInv.subA {A':List GV} (h:TInv a b R A B z log ulog H hd t) (hs:List.Sublist A' A):TInv a b R A' B z log ulog H hd t:=by
 refine ⟨h.wf,h.low,h.mrk,h.hi,h.out0,fun hi=> ?_⟩
 obtain ⟨pe,hle,head,HH,used,ai,d8,w9,w14,b11⟩:=h.inn hi
 exact ⟨fun x hx=>pe x (hs.subset hx),fun x hx=>hle x (hs.subset hx),head,HH,used,fun q x hx=>ai q x (hs.subset hx),d8,w9,w14,b11⟩
end
section
variable {a b R hd tl:Nat} {z:GV} {A:List GV} {B B':List TV} {log:Log} {ulog H:List Nat} {g:Giv} {v:TV}
theorem GInv.subB (h:GInv a b R A z B log ulog H hd tl g) (hs:List.Sublist B' B):GInv a b R A z B' log ulog H hd tl g:=by
 refine ⟨h.wf,h.low,h.mrk,h.hi,h.out0,fun hi=> ?_⟩
 obtain ⟨all,out,next,tail,tle,ce,p7,i8,p8,p9,p10,p11,sh⟩:=h.inn hi
 exact ⟨all,out,next,tail,tle,fun x hx=>ce x (hs.subset hx),fun q=>⟨(p7 q).1,fun x hx=>(p7 q).2 x (hs.subset hx)⟩,i8,p8,p9,p10,p11,sh⟩
theorem GInv.pushB (hne:B≠ []) (h:GInv a b R A z B log ulog H hd tl g) (hs:List.Sublist B' B) (hp:∀x∈B,x.ce=a+b→v.ce=a+b∧x.ui≤v.ui):GInv a b R A z (B' ++ [v]) log ulog H hd tl g:=by
 refine ⟨h.wf,h.low,h.mrk,h.hi,h.out0,fun hi=> ?_⟩
 obtain ⟨all,out,next,tail,tle,ce,p7,i8,p8,p9,p10,p11,sh⟩:=h.inn hi
 obtain ⟨x0,hx0⟩:=List.exists_mem_of_ne_nil B hne
 have h0:=hp x0 hx0 (ce x0 hx0).1
 refine ⟨all,out,next,tail,tle,fun x hx=> ?_,fun q=>⟨(p7 q).1,fun x hx=> ?_⟩,i8,p8,p9,p10,p11,sh⟩
 ·rcases List.mem_append.1 hx with hx|hx
  ·exact ce x (hs.subset hx)
  ·rw [List.mem_singleton.1 hx];exact ⟨h0.1,Nat.le_trans (ce x0 hx0).2 h0.2⟩
 ·rcases List.mem_append.1 hx with hx|hx
  ·exact (p7 q).2 x (hs.subset hx)
  ·rw [List.mem_singleton.1 hx];exact Nat.le_trans ((p7 q).2 x0 hx0) h0.2
theorem GInv.came (h:GInv a b R A z B log ulog H hd tl g) (hlt:hd<log.length):GInv a b R A z B log ulog (H ++ [(log.getD hd (0, [])).1]) (hd+1) tl g:=by
 refine ⟨h.wf,h.low,h.mrk,h.hi,fun q=> ?_,fun hi=> ?_⟩
 ·have:=(h.out0 q).1
  rw [this] at hlt
  simp at hlt
 ·obtain ⟨all,out,next,tail,tle,ce,p7,i8,p8,p9,p10,p11,sh⟩:=h.inn hi
  refine ⟨all, ?_,next,tail,tle,ce,p7,i8,p8,p9,p10,p11,sh⟩
  rw [drop_cons log hd (0, []) hlt] at out
  rw [List.perm_iff_count] at out ⊢
  intro x
  have:=out x
  simp only [List.count_append,List.count_cons,List.count_nil,List.map_cons] at this ⊢
  omega
theorem GInv.freed {H':List Nat} {x:Nat} (h:GInv a b R A z B log ulog H hd tl g) (hp:H.Perm (x :: H')):GInv a b R A z B log (ulog ++ [x]) H' hd tl g:=by
 refine ⟨h.wf,h.low,h.mrk,h.hi,fun q=> ?_,fun hi=> ?_⟩
 ·have:=(h.out0 q).2.2.1
  rw [this] at hp
  exact absurd hp.length_eq (by simp)
 ·obtain ⟨all,out,next,tail,tle,ce,p7,i8,p8,p9,p10,p11,sh⟩:=h.inn hi
  refine ⟨all, ?_,next,tail,by rw [List.length_append];omega,ce,p7,i8,p8,p9,p10,p11,sh⟩
  rw [List.drop_append_of_le_length tle]
  rw [List.perm_iff_count] at out hp ⊢
  intro y
  have h1:=out y
  have h2:=hp y
  simp only [List.count_append,List.count_cons,List.count_nil] at h1 h2 ⊢
  omega
theorem GInv.roomB (h:GInv a b R A z B log ulog H hd tl g) (hH:H≠ []):ulog.length-tl<R:=by
 by_cases hi:g.inn b
 ·have h1:=(h.inn hi).out.length_eq
  have h2:=(h.inn hi).nodup.2.1
  have h3:=List.length_pos_iff.2 hH
  simp only [List.length_append,List.length_drop] at h1
  omega
 ·exact absurd (h.out0 hi).2.2.1 hH
end
structure Gho where
 log:Log
 ulog:List Nat
 H:List Nat
 hd:Nat
 tl:Nat
structure Jn (E R a b:Nat) (gu tu:Bool) (g:Giv) (t:Tak) (A:List GV) (B:List TV) (G:Gho):Prop where
 R1:1≤R
 R64:R≤64
 lim:a+b≤E∧G.log.length≤E∧G.ulog.length≤E
 neA:A≠ []
 neB:B≠ []
 av:AInv (a+b) R A G.log G.hd
 bv:BInv (a+b) R B G.ulog G.tl
 hdl:G.hd≤G.log.length
 gi:gu=true→∀z,A.getLast? = some z→GInv a b R A z B G.log G.ulog G.H G.hd G.tl g
 ti:tu=true→∀z,B.getLast? = some z→TInv a b R A B z G.log G.ulog G.H G.hd t
 dead:gu=false→G.tl=G.ulog.length
theorem last_mem {α : Type} {l:List α} {z: α} (h:l.getLast? = some z):z∈l:=List.mem_of_getLast? h
theorem last_of {α : Type} {l:List α} (h:l≠ []):∃z,l.getLast? = some z:=⟨_,List.getLast?_eq_some_getLast h⟩
theorem pw_last {α : Type} {r: α → α → Prop} {l:List α} {z: α} (h:l.Pairwise r) (hz:l.getLast? = some z) (x: α) (hx:x∈l):x=z∨r x z:=by
 obtain ⟨ys,rfl⟩:=List.getLast?_eq_some_iff.1 hz
 rcases List.mem_append.1 hx with hx|hx
 ·exact .inr ((List.pairwise_append.1 h).2.2 x hx z (by simp))
 ·exact .inl (List.mem_singleton.1 hx)
theorem pw_head {α : Type} {r: α → α → Prop} {l:List α} {u: α} (h:l.Pairwise r) (hu:l.head? = some u) (x: α) (hx:x∈l):x=u∨r u x:=by
 cases l with
 | nil=>simp at hu
 | cons y l=>
  have e:y=u:=by simpa using hu
  subst e
  rcases List.mem_cons.1 hx with hx|hx
  ·exact .inl hx
  ·exact .inr ((List.pairwise_cons.1 h).1 x hx)
def Shrunk {α : Type} (l l':List α):Prop:=List.Sublist l' l∧l'≠ []∧l'.getLast? = l.getLast?
theorem Shrunk.refl {α : Type} {l:List α} (h:l≠ []):Shrunk l l:=⟨List.Sublist.refl _,h,rfl⟩
section
variable {E R a b:Nat} {gu tu:Bool} {g g':Giv} {t t':Tak} {A A1:List GV} {B B1:List TV} {G:Gho} {w e:Int} {d:Bool}
theorem Jn.more (h:Jn E R a b gu tu g t A B G) (E':Nat) (hE:E≤E'):Jn E' R a b gu tu g t A B G:=
 ⟨h.R1,h.R64,by have:=h.lim;omega,h.neA,h.neB,h.av,h.bv,h.hdl,h.gi,h.ti,h.dead⟩
theorem Jn.shrinkA (h:Jn E R a b gu tu g t A B G) (hs:Shrunk A A1):Jn E R a b gu tu g t A1 B G:=
 ⟨h.R1,h.R64,h.lim,hs.2.1,h.neB,h.av.sub hs.1,h.bv,h.hdl,fun q z hz=>(h.gi q z (hs.2.2 ▸ hz)).sub hs.1,fun q z hz=>(h.ti q z hz).subA hs.1,h.dead⟩
theorem Jn.shrinkB (h:Jn E R a b gu tu g t A B G) (hs:Shrunk B B1):Jn E R a b gu tu g t A B1 G:=
 ⟨h.R1,h.R64,h.lim,h.neA,hs.2.1,h.av,h.bv.sub hs.1,h.hdl,fun q z hz=>(h.gi q z hz).subB hs.1,fun q z hz=>(h.ti q z (hs.2.2 ▸ hz)).sub hs.1,h.dead⟩
theorem Jn.idleA (h:Jn E R a b gu tu g t A B G) (z:GV) (hz:A.getLast? = some z) (hs:List.Sublist A1 A):Jn E R a b gu tu g t (A1 ++ [z]) B G:=by
 have hm:∀x∈A,x.pe=a+b→z.pe=a+b∧x.ai≤z.ai:=fun x hx e=>by
  rcases pw_last h.av.mono hz x hx with rfl|r
  ·exact ⟨e,Nat.le_refl _⟩
  ·exact r e
 have hzm:=last_mem hz
 have hav:AInv (a+b) R (A1 ++ [z]) G.log G.hd:=(h.av.sub hs).push (h.av.le z hzm) (fun x hx=>hm x (hs.subset hx)) (h.av.most z hzm) (h.av.ok z hzm)
 refine ⟨h.R1,h.R64,h.lim,by simp,h.neB,hav,h.bv,h.hdl,fun q z' hz'=> ?_,fun q z' hz'=>(h.ti q z' hz').pushA h.av h.neA hs hm (.inl rfl),h.dead⟩
 have e:z'=z:=by simpa using hz'.symm
 subst e
 have hg:=h.gi q z' hz
 refine ⟨hg.wf,fun q v hv=> ?_,hg.mrk,hg.hi,hg.out0,hg.inn⟩
 rcases List.mem_append.1 hv with hv|hv
 ·exact hg.low q v (hs.subset hv)
 ·rw [List.mem_singleton.1 hv];exact hg.low q z' hzm
theorem Jn.idleB (h:Jn E R a b gu tu g t A B G) (z:TV) (hz:B.getLast? = some z) (hs:List.Sublist B1 B):Jn E R a b gu tu g t A (B1 ++ [z]) G:=by
 have hm:∀x∈B,x.ce=a+b→z.ce=a+b∧x.ui≤z.ui:=fun x hx e=>by
  rcases pw_last h.bv.mono hz x hx with rfl|r
  ·exact ⟨e,Nat.le_refl _⟩
  ·exact r e
 have hzm:=last_mem hz
 have hbv:BInv (a+b) R (B1 ++ [z]) G.ulog G.tl:=(h.bv.sub hs).push (h.bv.le z hzm) (fun x hx=>hm x (hs.subset hx)) (h.bv.most z hzm) (h.bv.ok z hzm)
 refine ⟨h.R1,h.R64,h.lim,h.neA,by simp,h.av,hbv,h.hdl,fun q z' hz'=>(h.gi q z' hz').pushB h.neB hs hm,fun q z' hz'=> ?_,h.dead⟩
 have e:z'=z:=by simpa using hz'.symm
 subst e
 have hg:=h.ti q z' hz
 refine ⟨hg.wf,fun q v hv=> ?_,hg.mrk,hg.hi,hg.out0,hg.inn⟩
 rcases List.mem_append.1 hv with hv|hv
 ·exact hg.low q v (hs.subset hv)
 ·rw [List.mem_singleton.1 hv];exact hg.low q z' hzm
theorem Jn.gquiet (hE:E<50000) (h:Jn E R a b true tu g t A B G) (h0:g.pc≠0) (hs:GStep g w g' d e) (hst:g.stores=false) (u:TV) (hu:B.head? = some u)
  (h1:g.pc=1∨g.pc=15→w=(b:Int)) (h5:g.pc=5→w=(u.ce:Int)) (h6:g.pc=6→w=(u.ui:Int)) (h7:g.pc=7→w=(u.used (g.tail%R):Int)):
  ∃tl',Jn E R a b true tu g' t A B { G with tl:=tl' }:=by
 obtain ⟨z,hz⟩:=last_of h.neA
 have hl:=h.lim
 obtain ⟨tl',hb,hg⟩:=(h.gi rfl z hz).quiet h.R1 (by omega) (by omega) (by omega) h.bv (last_mem hz) h0 hs hst (List.mem_of_head? hu)
  (fun x hx e=>by
   rcases pw_head h.bv.mono hu x hx with rfl|r
   ·exact ⟨e,Nat.le_refl _⟩
   ·exact r e) h1 h5 h6 h7
 exact ⟨tl',h.R1,h.R64,h.lim,h.neA,h.neB,h.av,hb,h.hdl,fun _ z' hz'=>by rw [hz] at hz';injection hz' with e;subst e;exact hg,h.ti,fun q=>by cases q⟩
theorem Jn.gstore (hE:E<50000) (h:Jn E R a b true tu g t A B G) (hs:GStep g w g' d e) (hst:g.stores=true) (z:GV) (hz:A.getLast? = some z) (hA:List.Sublist A1 A):
  ∃log',(log'=G.log∨g.inn b∧g.pc=12∧log'=G.log ++ [(g.d,g.load)])∧Jn (E+1) R a b true tu g' t (A1 ++ [g.put z]) B { G with log:=log' }:=by
 have hl:=h.lim
 have hm:∀x∈A,x.pe=a+b→z.pe=a+b∧x.ai≤z.ai:=fun x hx e=>by
  rcases pw_last h.av.mono hz x hx with rfl|r
  ·exact ⟨e,Nat.le_refl _⟩
  ·exact r e
 obtain ⟨log',hlog,hav,hgi,hall⟩:=(h.gi rfl z hz).store (by omega) (by omega) h.av h.hdl (last_mem hz) hm hs hst hA
 refine ⟨log',hlog,h.R1,h.R64, ?_,by simp,h.neB,hav,h.bv, ?_,fun _ z' hz'=> ?_,fun q z' hz'=>(h.ti q z' hz').pushA h.av h.neA hA hall (by rcases hlog with r|⟨_,_,r⟩;exact .inl r;exact .inr ⟨_,r⟩),fun q=>by cases q⟩
 ·rcases hlog with r|⟨_,_,r⟩
  ·simp only [r];omega
  ·simp only [r,List.length_append,List.length_cons,List.length_nil];omega
 ·have:=h.hdl
  rcases hlog with r|⟨_,_,r⟩
  ·simp only [r];omega
  ·simp only [r,List.length_append,List.length_cons,List.length_nil];omega
 ·have e:z'=g.put z:=by simpa using hz'.symm
  subst e
  exact hgi
theorem Jn.tquiet (hE:E<50000) (h:Jn E R a b gu true g t A B G) (h0:t.pc≠0) (hs:TStep t w t' d e) (hst:t.stores=false) (v:GV) (hv:A.head? = some v)
  (h1:t.pc=1∨t.pc=14→w=(a:Int)) (h5:t.pc=5→w=(v.pe:Int)) (h6:t.pc=6→w=(v.ai:Int)) (h7:t.pc=7→w=(v.avail (t.head%R):Int)) (h8:t.pc=8→w=(v.len t.d:Int)) (h9:t.pc=9→w=(v.load t.d t.load.length:Int)):
  ∃hd' H',(hd'=G.hd∧H'=G.H∧ ¬(t.inn a∧t.read∧d=true)∨t.inn a∧t.read∧d=true∧e=0∧G.hd<G.log.length∧hd'=G.hd+1)∧Jn E R a b gu true g t' A B { G with hd:=hd',H:=H' }:=by
 obtain ⟨z,hz⟩:=last_of h.neB
 have hl:=h.lim
 obtain ⟨hd',H',hr,hg⟩:=(h.ti rfl z hz).quiet h.R64 (by omega) (by omega) (by omega) h.av (last_mem hz) h0 hs hst (List.mem_of_head? hv)
  (fun x hx e=>by
   rcases pw_head h.av.mono hv x hx with rfl|r
   ·exact ⟨e,Nat.le_refl _⟩
   ·exact r e) h1 h5 h6 h7 h8 h9
 rcases hr with ⟨r1,r2,r3⟩|⟨r1,r2,r3,r4,r5,r6,r7⟩
 ·subst r1 r2
  exact ⟨G.hd,G.H, .inl ⟨rfl,rfl,r3⟩,h.R1,h.R64,h.lim,h.neA,h.neB,h.av,h.bv,h.hdl,h.gi,fun _ z' hz'=>by rw [hz] at hz';injection hz' with e;subst e;exact hg,h.dead⟩
 ·subst r6 r7
  exact ⟨G.hd+1,_, .inr ⟨r1,r2,r3,r4,r5,rfl⟩,h.R1,h.R64,h.lim,h.neA,h.neB,h.av.head (Nat.le_succ _),h.bv,r5,fun q z' hz'=>(h.gi q z' hz').came r5,fun _ z' hz'=>by rw [hz] at hz';injection hz' with e;subst e;exact hg,h.dead⟩
theorem Jn.tstore (hE:E<50000) (h:Jn E R a b gu true g t A B G) (hs:TStep t w t' d e) (hst:t.stores=true) (z:TV) (hz:B.getLast? = some z) (hB:List.Sublist B1 B):
  ∃ulog' H' tl',Jn (E+1) R a b gu true g t' A (B1 ++ [t.put z]) { G with ulog:=ulog',H:=H',tl:=tl' }:=by
 have hl:=h.lim
 have hm:∀x∈B,x.ce=a+b→z.ce=a+b∧x.ui≤z.ui:=fun x hx e=>by
  rcases pw_last h.bv.mono hz x hx with rfl|r
  ·exact ⟨e,Nat.le_refl _⟩
  ·exact r e
 have hti:=h.ti rfl z hz
 have hroom:t.inn a→t.pc=10→G.ulog.length-G.tl<R:=by
  intro hi hp
  cases hgu:gu with
  | true=>
   obtain ⟨zA,hzA⟩:=last_of h.neA
   refine (h.gi hgu zA hzA).roomB ?_
   intro hH
   have:=(hti.inn hi).H
   rw [hH] at this
   have hb:=hti.wf.yb (by omega) (by omega)
   have:=this.length_eq
   simp [Tak.rel,hb,hp] at this
  | false=>
   have:=h.dead hgu
   have:=h.R1
   omega
 obtain ⟨ulog',H',hr,hbv,htv,hall⟩:=hti.store (by omega) (by omega) h.bv (last_mem hz) hm hroom hs hst hB
 rcases hr with ⟨r1,r2⟩|⟨r1,r2,r3,r4⟩
 ·subst r1 r2
  refine ⟨G.ulog,G.H,G.tl,h.R1,h.R64,by simp only;omega,h.neA,by simp,h.av,hbv,h.hdl,fun q z' hz'=>(h.gi q z' hz').pushB h.neB hB hall,fun _ z' hz'=> ?_,h.dead⟩
  have e:z'=t.put z:=by simpa using hz'.symm
  subst e
  exact htv
 ·subst r3
  cases hgu:gu with
  | true=>
   refine ⟨_,H',G.tl,h.R1,h.R64,by simp only [List.length_append,List.length_cons,List.length_nil];omega,h.neA,by simp,h.av,hbv,h.hdl,fun q z' hz'=>((h.gi hgu z' hz').freed r4).pushB h.neB hB hall,fun _ z' hz'=> ?_,fun q=>by cases q⟩
   have e:z'=t.put z:=by simpa using hz'.symm
   subst e
   exact htv
  | false=>
   have hd:=h.dead hgu
   refine ⟨_,H',(G.ulog ++ [t.d]).length,h.R1,h.R64,by simp only [List.length_append,List.length_cons,List.length_nil];omega,h.neA,by simp,h.av,hbv.tail (by show G.tl≤(G.ulog ++ [t.d]).length;rw [List.length_append];omega),h.hdl,fun q=>(by cases q),fun _ z' hz'=> ?_,fun _=>rfl⟩
   have e:z'=t.put z:=by simpa using hz'.symm
   subst e
   exact htv
theorem Jn.holdA (h:Jn E R a b gu tu g t A B G) (v:GV) (hv:A.head? = some v):Jn E R a b false tu g t [v] B { G with tl:=G.ulog.length }:=by
 have hs:List.Sublist [v] A:=List.singleton_sublist.2 (List.mem_of_head? hv)
 refine ⟨h.R1,h.R64,h.lim,by simp,h.neB,h.av.sub hs,⟨h.bv.le,h.bv.mono,h.bv.most,fun x hx e k hk hk2=> ?_⟩,h.hdl,fun q=>(by cases q),fun q z hz=>(h.ti q z hz).subA hs,fun _=>rfl⟩
 have:=h.bv.most x hx e
 simp only at hk
 omega
theorem Jn.holdB (h:Jn E R a b gu tu g t A B G) (v:TV) (hv:B.head? = some v):Jn E R a b gu false g t A [v] G:=by
 have hs:List.Sublist [v] B:=List.singleton_sublist.2 (List.mem_of_head? hv)
 exact ⟨h.R1,h.R64,h.lim,h.neA,by simp,h.av,h.bv.sub hs,h.hdl,fun q z hz=>(h.gi q z hz).subB hs,fun q=>(by cases q),h.dead⟩
def Gho.none_:Gho:=⟨[], [], [],0,0⟩
structure Giv.New (g:Giv) (a R:Nat):Prop where
 ring:g.ring=R
 own:g.own=a
 known:g.known=if a=0 then 0 else -1
 linked:g.linked=false
 free:g.free=List.range R
 out:g.out= []
 next:g.next=0
 tail:g.tail=0
 pc:g.pc=0
structure Tak.New (t:Tak) (b R:Nat):Prop where
 ring:t.ring=R
 own:t.own=b
 known:t.known=if b=0 then 0 else -1
 linked:t.linked=false
 tabn:t.tab.n=(R:Int)
 tabl:t.tab.held.length=64
 held:∀j,t.tab.held.getD j false=false
 head:t.head=0
 used:t.used=0
 pc:t.pc=0
theorem GWf.up (h:GWf a b R g):GWf a (b+1) R g:=⟨h.ring,h.own,by have:=h.kn;omega,h.kn0,h.pcm,h.wf5,h.wf6,h.wfF,h.ans⟩
theorem TWf.up (h:TWf a b R t):TWf (a+1) b R t:=⟨h.ring,h.tabn,h.tabl,h.own,by have:=h.kn;omega,h.kn0,h.pcm,h.wf5,h.wf6,h.wfF,h.emp,h.nb,h.yb,h.ans⟩
theorem Jn.startA (h:Jn E R a b gu tu g t A B G) (hg:g'.New (a+1) R):Jn (E+1) R (a+1) b true tu g' t A B Gho.none_:=by
 have hV:a+1+b=a+b+1:=by omega
 refine ⟨h.R1,h.R64,by have:=h.lim;simp [Gho.none_];omega,h.neA,h.neB, ?_, ?_,Nat.le_refl _,fun _ z hz=> ?_,fun q z hz=> ?_,fun q=>by cases q⟩
 ·rw [hV];exact h.av.next
 ·rw [hV];exact h.bv.next
 ·have hk:g'.known= -1:=by rw [hg.known,if_neg (by omega)]
  have hni: ¬g'.inn b:=fun q=>by have:=q.1;rw [hg.linked] at this;cases this
  refine ⟨⟨hg.ring,hg.own,by omega, .inl ⟨hk,by omega,by have:=hg.pc;omega⟩,by have:=hg.pc;omega,fun q=>hg.linked,fun q=>by have:=hg.pc;omega,fun _=>⟨hg.free,hg.out,hg.next,hg.tail⟩,fun q=>by have:=hg.pc;omega⟩,fun _ v hv=> ?_,fun q=>by omega,fun q=>by omega,fun _=>⟨rfl,rfl,rfl,rfl⟩,fun q=>absurd q hni⟩
  have:=h.av.le v hv
  omega
 ·have ht:=h.ti q z hz
  have hk:=ht.wf.kn
  have hni: ¬t.inn (a+1):=fun q=>by have:=q.2.1;omega
  refine ⟨ht.wf.up,fun _ v hv=> ?_,fun q=>by omega,fun q=>by omega,fun _=>⟨rfl,rfl,rfl⟩,fun q=>absurd q hni⟩
  have:=h.bv.le v hv
  omega
theorem Jn.startB (h:Jn E R a b gu tu g t A B G) (hg:t'.New (b+1) R):Jn (E+1) R a (b+1) gu true g t' A B Gho.none_:=by
 have hV:a+(b+1)=a+b+1:=by omega
 refine ⟨h.R1,h.R64,by have:=h.lim;simp [Gho.none_];omega,h.neA,h.neB, ?_, ?_,Nat.le_refl _,fun q z hz=> ?_,fun _ z hz=> ?_,fun q=>rfl⟩
 ·rw [hV];exact h.av.next
 ·rw [hV];exact h.bv.next
 ·have ht:=h.gi q z hz
  have hk:=ht.wf.kn
  have hni: ¬g.inn (b+1):=fun q=>by have:=q.2.1;omega
  refine ⟨ht.wf.up,fun _ v hv=> ?_,fun q=>by omega,fun q=>by omega,fun _=>⟨rfl,rfl,rfl,rfl⟩,fun q=>absurd q hni⟩
  have:=h.av.le v hv
  omega
 ·have hk:t'.known= -1:=by rw [hg.known,if_neg (by omega)]
  have hni: ¬t'.inn a:=fun q=>by have:=q.1;rw [hg.linked] at this;cases this
  have hp:=hg.pc
  refine ⟨⟨hg.ring,hg.tabn,hg.tabl,hg.own,by omega, .inl ⟨hk,by omega,by omega⟩,by omega,fun q=>hg.linked,fun q=>by omega,fun _=>⟨hg.held,hg.head,hg.used,fun q=>absurd hp q⟩,fun q=>by omega,fun q=>by omega,fun q=>by omega,fun q=>by omega⟩,fun _ v hv=> ?_,fun q=>by omega,fun q=>by omega,fun _=>⟨rfl,rfl,rfl⟩,fun q=>absurd q hni⟩
  have:=h.bv.le v hv
  omega
theorem Jn.first (R1:1≤R) (R64:R≤64) (hg:g.New 0 R) (ht:t.New 0 R) (v:GV) (u:TV) (h1:v.pe=0) (h2:v.ai=0) (h3:u.ce=0) (h4:u.ui=0):Jn 0 R 0 0 true true g t [v] [u] Gho.none_:=by
 have hgp:=hg.pc
 have htp:=ht.pc
 have hgk:=hg.known
 have htk:=ht.known
 rw [if_pos rfl] at hgk htk
 have hni: ¬g.inn 0:=fun q=>by have:=q.1;rw [hg.linked] at this;cases this
 have hnt: ¬t.inn 0:=fun q=>by have:=q.1;rw [ht.linked] at this;cases this
 refine ⟨R1,R64,by simp [Gho.none_],by simp,by simp,⟨?_,List.pairwise_singleton _ _, ?_, ?_⟩,⟨?_,List.pairwise_singleton _ _, ?_, ?_⟩,Nat.le_refl _,fun _ z hz=> ?_,fun _ z hz=> ?_,fun q=>by cases q⟩
 ·simp [h1]
 ·simp [h2]
 ·intro x hx _ k _ hk
  rw [List.mem_singleton.1 hx] at hk
  omega
 ·simp [h3]
 ·simp [h4]
 ·intro x hx _ k _ hk
  rw [List.mem_singleton.1 hx] at hk
  omega
 ·have e:z=v:=by simpa using hz.symm
  subst e
  exact ⟨⟨hg.ring,hg.own,by omega, .inr (by omega),by omega,fun q=>by omega,fun q=>by omega,fun _=>⟨hg.free,hg.out,hg.next,hg.tail⟩,fun q=>by omega⟩,fun q=>by omega,fun _ q=>by omega,fun _ _ _=>⟨h1,h2⟩,fun _=>⟨rfl,rfl,rfl,rfl⟩,fun q=>absurd q hni⟩
 ·have e:z=u:=by simpa using hz.symm
  subst e
  exact ⟨⟨ht.ring,ht.tabn,ht.tabl,ht.own,by omega, .inr (by omega),by omega,fun q=>by omega,fun q=>by omega,fun _=>⟨ht.held,ht.head,ht.used,fun q=>absurd htp q⟩,fun q=>by omega,fun q=>by omega,fun q=>by omega,fun q=>by omega⟩,fun q=>by omega,fun _ q=>by omega,fun _ _ _=>⟨h3,h4⟩,fun _=>⟨rfl,rfl,rfl⟩,fun q=>absurd q hnt⟩
end
section
variable {E R a b:Nat} {gu tu:Bool} {g g':Giv} {t t':Tak} {A A1:List GV} {B B1:List TV} {G:Gho} {w e:Int} {d:Bool}
theorem Jn.send (h:Jn E R a b true tu g t A B G) (h0:g.pc=0) (l:List Nat):Jn E R a b true tu { g with load:=l,pc:=1 } t A B G:=by
 refine ⟨h.R1,h.R64,h.lim,h.neA,h.neB,h.av,h.bv,h.hdl,fun q z hz=> ?_,h.ti,h.dead⟩
 obtain ⟨wf,low,mrk,hi,out0,inn⟩:=h.gi q z hz
 refine ⟨?_, ?_, ?_, ?_, ?_, ?_⟩
 ·obtain ⟨ring,own,kn,kn0,pcm,wf5,wf6,wfF,ans⟩:=wf
  constructor<;>grind
 ·intro q
  simp only at q
  exact low (.inl (by omega))
 ·simp only;omega
 ·simp only;intro q1 _ _;exact hi q1 (by omega) (by omega)
 ·intro q
  refine out0 (fun q'=>q ?_)
  simp only [Giv.inn] at q' ⊢
  simpa using q'.1 |> fun x=>(⟨x,q'.2.1⟩:_∧_)
 ·intro q
  have q':g.inn b:=by simp only [Giv.inn] at q ⊢;exact ⟨q.1,q.2.1,by omega,by omega,by omega⟩
  obtain ⟨all,out,next,tail,tle,ce,p7,i8,p8,p9,p10,p11,sh⟩:=inn q'
  constructor<;>grind [Giv.shown,Giv.cur]
theorem Jn.recv (h:Jn E R a b gu true g t A B G) (h0:t.pc=0):Jn E R a b gu true g (t.begin_ false) A B G:=by
 refine ⟨h.R1,h.R64,h.lim,h.neA,h.neB,h.av,h.bv,h.hdl,h.gi,fun q z hz=> ?_,h.dead⟩
 obtain ⟨wf,low,mrk,hi,out0,inn⟩:=h.ti q z hz
 refine ⟨?_, ?_, ?_, ?_, ?_, ?_⟩
 ·obtain ⟨ring,tabn,tabl,own,kn,kn0,pcm,wf5,wf6,wfF,emp,nb,yb,ans⟩:=wf
  constructor<;>grind [Tak.begin_]
 ·intro q
  simp only [Tak.begin_] at q
  exact low (.inl (by omega))
 ·simp only [Tak.begin_];omega
 ·simp only [Tak.begin_];intro q1 _ _;exact hi q1 (by omega) (by omega)
 ·intro q
  refine out0 (fun q'=>q ?_)
  simp only [Tak.inn,Tak.begin_] at q' ⊢
  exact ⟨q'.1,q'.2.1,by omega,by omega,by omega⟩
 ·intro q
  have q':t.inn a:=by simp only [Tak.inn,Tak.begin_] at q ⊢;exact ⟨q.1,q.2.1,by omega,by omega,by omega⟩
  obtain ⟨pe,hle,head,HH,used,ai,d8,w9,w14,b11⟩:=inn q'
  refine ⟨pe,hle,head, ?_, ?_, ?_, ?_, ?_, ?_, ?_⟩
  ·simpa [Tak.rel,Tak.begin_,h0,Tak.holds] using HH
  ·simpa [Tak.told,Tak.begin_,h0] using used
  all_goals simp [Tak.read,Tak.begin_]
theorem Jn.release (h:Jn E R a b gu true g t A B G) (h0:t.pc=0) (x:Int) (hg:Grants.good t.tab x):Jn E R a b gu true g { ({ t with tab:=t.tab.hold (x%64).toNat false }:Tak).begin_ true with d:=(x%64).toNat } A B G:=by
 refine ⟨h.R1,h.R64,h.lim,h.neA,h.neB,h.av,h.bv,h.hdl,h.gi,fun q z hz=> ?_,h.dead⟩
 obtain ⟨wf,low,mrk,hi,out0,inn⟩:=h.ti q z hz
 have hR:=h.R64
 have htn:=wf.tabn
 have htl:=wf.tabl
 have hring:=wf.ring
 obtain ⟨g1,g2,g3⟩:=hg
 have hlt:(x%64).toNat<R:=by omega
 have hlk:t.linked=true:=by
  by_cases hl:t.linked=true
  ·exact hl
  ·have:=(wf.wfF (by simpa using hl)).1 (x%64).toNat
   rw [this] at g2;cases g2
 refine ⟨?_, ?_, ?_, ?_, ?_, ?_⟩
 ·obtain ⟨ring,tabn,tabl,own,kn,kn0,pcm,wf5,wf6,wfF,emp,nb,yb,ans⟩:=wf
  exact ⟨ring,tabn,by simp [Tak.begin_,Grants.Tb.hold,tabl],own,kn,by simp only [Tak.begin_];omega,by simp [Tak.begin_],by simp [Tak.begin_],by simp [Tak.begin_],fun hl=>by simp [Tak.begin_,hlk] at hl,fun _ _=>rfl,by simp [Tak.begin_],by simp [Tak.begin_],by simp [Tak.begin_]⟩
 ·intro q
  simp only [Tak.begin_] at q
  exact low (.inl (by omega))
 ·simp only [Tak.begin_];omega
 ·simp only [Tak.begin_];intro q1 _ _;exact hi q1 (by omega) (by omega)
 ·intro q
  refine out0 (fun q'=>q ?_)
  simp only [Tak.inn,Tak.begin_] at q' ⊢
  exact ⟨q'.1,q'.2.1,by omega,by omega,by omega⟩
 ·intro q
  have q':t.inn a:=by simp only [Tak.inn,Tak.begin_] at q ⊢;exact ⟨q.1,q.2.1,by omega,by omega,by omega⟩
  obtain ⟨pe,hle,head,HH,used,ai,d8,w9,w14,b11⟩:=inn q'
  refine ⟨pe,hle,head, ?_, ?_, ?_, ?_, ?_, ?_, ?_⟩
  ·have e1:t.rel= []:=by simp [Tak.rel,h0]
   rw [e1,List.append_nil] at HH
   have hp:=holds_drop (t:=t) (t':= { ({ t with tab:=t.tab.hold (x%64).toNat false }:Tak).begin_ true with d:=(x%64).toNat }) (d:=(x%64).toNat) rfl (by omega) (by omega) g2 rfl
   have e2:({ ({ t with tab:=t.tab.hold (x%64).toNat false }:Tak).begin_ true with d:=(x%64).toNat }:Tak).rel= [(x%64).toNat]:=by simp [Tak.rel,Tak.begin_]
   rw [e2]
   rw [List.perm_iff_count] at HH hp ⊢
   intro y
   have q1:=HH y
   have q2:=hp y
   simp only [List.count_append,List.count_cons,List.count_nil] at q1 q2 ⊢
   omega
  ·simpa [Tak.told,Tak.begin_,h0] using used
  all_goals simp [Tak.read,Tak.begin_]
end
structure Rec where
 kind:Nat
 peer:Nat
 fin:Bool
 err:Int
 load:List Int
 link:Nat
def Rec.isSend (x:Rec) (j L:Nat):Prop:=x.link=L∧x.kind=1∧x.peer=j
instance (x:Rec) (j L:Nat):Decidable (x.isSend j L):=by unfold Rec.isSend;infer_instance
def Rec.isGot (x:Rec) (i L:Nat):Prop:=x.link=L∧x.kind=2∧x.peer=i∧x.fin=true∧x.err=0
instance (x:Rec) (j L:Nat):Decidable (x.isGot j L):=by unfold Rec.isGot;infer_instance
abbrev Loads:=List (List Int)
def sentF (j L:Nat) (s:Loads × Loads) (x:Rec):Loads × Loads:=
 if x.isSend j L then (if x.fin=true∧x.err=0 then (s.1 ++ [x.load], []) else if x.fin=false∨x.err=8 then (s.1,s.2 ++ [x.load]) else s) else s
def sentOf (j L:Nat) (l:List Rec):Loads × Loads:=l.foldl (sentF j L) ([], [])
def gotOf (i L:Nat) (l:List Rec):Loads:=(l.filter fun x=>decide (x.isGot i L)).map (·.load)
theorem sentOf_push (j L:Nat) (l:List Rec) (x:Rec):sentOf j L (l ++ [x])=sentF j L (sentOf j L l) x:=by
 unfold sentOf;rw [List.foldl_append];rfl
theorem gotOf_push (i L:Nat) (l:List Rec) (x:Rec):gotOf i L (l ++ [x])=if x.isGot i L then gotOf i L l ++ [x.load] else gotOf i L l:=by
 unfold gotOf
 rw [List.filter_append]
 by_cases h:x.isGot i L
 ·rw [if_pos h];simp [h]
 ·rw [if_neg h];simp [h]
structure DL (i j L:Nat) (ll:Loads) (s g:Nat) (pi pj:List Rec) (sr:Loads):Prop where
 sent:(sentOf j L pi).1=ll.take s
 le:s≤ll.length
 more:ll.length≤s∨ll.length=s+1∧ll.getD s []∈(sentOf j L pi).2++sr
 got:gotOf i L pj=ll.take g
section
variable {i j L:Nat} {ll:Loads} {s g:Nat} {pi pj:List Rec} {sr sr':Loads} {x:Rec}
theorem DL.weak (h:DL i j L ll s g pi pj sr) (hs:∀y∈sr,y∈sr'):DL i j L ll s g pi pj sr':=
 ⟨h.sent,h.le,h.more.imp id (fun q=>⟨q.1,by
  rcases List.mem_append.1 q.2 with q|q
  ·exact List.mem_append_left _ q
  ·exact List.mem_append_right _ (hs _ q)⟩),h.got⟩
theorem DL.over (h:DL i j L ll s g pi pj sr) (h1: ¬(x.isSend j L∧x.fin=true∧x.err=0)) (h2:∀y∈sr,y∈sr'∨(x.isSend j L∧(x.fin=false∨x.err=8)∧y=x.load)):DL i j L ll s g (pi ++ [x]) pj sr':=by
 have e1:(sentOf j L (pi ++ [x])).1=(sentOf j L pi).1∧∀y,y∈(sentOf j L pi).2→y∈(sentOf j L (pi ++ [x])).2:=by
  rw [sentOf_push]
  unfold sentF
  by_cases hs:x.isSend j L
  ·rw [if_pos hs,if_neg (fun q=>h1 ⟨hs,q⟩)]
   split
   ·exact ⟨rfl,fun y hy=>List.mem_append_left _ hy⟩
   ·exact ⟨rfl,fun y hy=>hy⟩
  ·rw [if_neg hs];exact ⟨rfl,fun y hy=>hy⟩
 refine ⟨by rw [e1.1];exact h.sent,h.le,h.more.imp id (fun q=>⟨q.1, ?_⟩),h.got⟩
 rcases List.mem_append.1 q.2 with q|q
 ·exact List.mem_append_left _ (e1.2 _ q)
 ·rcases h2 _ q with q|⟨q1,q2,q3⟩
  ·exact List.mem_append_right _ q
  ·refine List.mem_append_left _ ?_
   rw [sentOf_push]
   unfold sentF
   rw [if_pos q1,if_neg (fun r=>h1 ⟨q1,r⟩),if_pos q2,q3]
   simp
theorem DL.sentOK (h:DL i j L ll s g pi pj sr) (h1:x.isSend j L) (h2:x.fin=true) (h3:x.err=0) (hl:ll.length=s+1) (hx:ll.getD s []=x.load):DL i j L ll (s+1) g (pi ++ [x]) pj sr':=by
 refine ⟨?_,by omega, .inl (by omega),h.got⟩
 rw [sentOf_push]
 unfold sentF
 rw [if_pos h1,if_pos ⟨h2,h3⟩]
 simp only
 rw [h.sent,List.take_succ_eq_append_getElem (by omega), ←hx]
 simp [List.getD,show s<ll.length by omega]
theorem DL.other (h:DL i j L ll s g pi pj sr) (h1: ¬x.isGot i L):DL i j L ll s g pi (pj ++ [x]) sr:=
 ⟨h.sent,h.le,h.more,by rw [gotOf_push,if_neg h1];exact h.got⟩
theorem DL.gotOK (h:DL i j L ll s g pi pj sr) (h1:x.isGot i L) (hg:g<ll.length) (hx:ll.getD g []=x.load):DL i j L ll s (g+1) pi (pj ++ [x]) sr:=by
 refine ⟨h.sent,h.le,h.more, ?_⟩
 rw [gotOf_push,if_pos h1,h.got,List.take_succ_eq_append_getElem hg, ←hx]
 simp [List.getD,hg]
theorem DL.show_ (h:DL i j L ll s g pi pj sr) (hs:ll.length=s) (hg:g≤ll.length) (y:List Int) (hy:y∈sr'):DL i j L (ll ++ [y]) s g pi pj sr':=by
 refine ⟨by rw [h.sent,List.take_append_of_le_length (by omega)],by rw [List.length_append];omega, .inr ⟨by rw [List.length_append,hs];rfl, ?_⟩,by rw [h.got,List.take_append_of_le_length hg]⟩
 rw [←hs,getD_last]
 exact List.mem_append_right _ hy
end
def loadsOf (log:Log):Loads:=log.map fun x=>x.2.map (Nat.cast:Nat→Int)
theorem loadsOf_len (log:Log):(loadsOf log).length=log.length:=by simp [loadsOf]
theorem loadsOf_get (log:Log) (k:Nat) (hk:k<log.length):(loadsOf log).getD k []=(log.getD k (0, [])).2.map (Nat.cast:Nat→Int):=by
 simp [loadsOf,List.getD,hk]
def srOf (j L:Nat) (g:Giv) (ci:Option Rec):Loads:=
 match ci with
 | some x=>if x.isSend j L∧g.shown then [x.load] else []
 | none=> []
def Rec.ofG (x:Rec) (j:Nat):Prop:=x.kind=1∧x.peer=j
def Rec.ofT (x:Rec) (i:Nat):Prop:=(x.kind=2∨x.kind=3)∧x.peer=i
structure Dg (i j a b:Nat) (gu tu:Bool) (g:Giv) (t:Tak) (G:Gho) (pi:List Rec) (ci:Option Rec) (pj:List Rec) (cj:Option Rec):Prop where
 now:∃s,DL i j (a+b) (loadsOf G.log) s G.hd pi pj (srOf j (a+b) g ci)∧(gu=true→g.inn b→s=g.next)
 old:∀L,L<a+b→∃ll s h,DL i j L ll s h pi pj (srOf j L g ci)
 lki:∀x∈pi,x.ofG j→x.link≤a+b
 lkj:∀x∈pj,x.ofT i→x.link≤a+b
 rung:∀x,ci=some x→x.ofG j→gu=true∧g.pc≠0∧x.fin=false∧x.load=g.load.map (Nat.cast:Nat→Int)∧x.link≤a+b∧(x.link=a+b∨g.known≠(b:Int)∨g.pc=2∨g.pc=3∨g.pc=4)
 idleg:gu=true→(∀x,ci=some x→ ¬x.ofG j)→g.pc=0
 runt:∀x,cj=some x→x.ofT i→tu=true∧t.pc≠0∧x.fin=false∧(x.kind=3 ↔ t.back=true)∧x.link≤a+b∧(x.link=a+b∨t.known≠(a:Int)∨t.pc=2∨t.pc=3∨t.pc=4)
 idlet:tu=true→(∀x,cj=some x→ ¬x.ofT i)→t.pc=0
theorem gstep_load {g g':Giv} {w e:Int} {d:Bool} (hs:GStep g w g' d e):g'.load=g.load:=by cases hs<;>rfl
theorem gstep_stay {g g':Giv} {w e:Int} (hs:GStep g w g' false e):g'.pc≠0∧(g.shown→g'.shown)∧(g'.shown→g.shown∨g.pc=12):=by
 cases hs<;>grind [Giv.shown]
theorem gstep_end {g g':Giv} {w e:Int} (hs:GStep g w g' true e):g'.pc=0:=by cases hs<;>rfl
theorem tstep_stay {t t':Tak} {w e:Int} (hs:TStep t w t' false e):t'.pc≠0∧t'.back=t.back:=by
 cases hs<;>refine ⟨?_,rfl⟩<;>simp only<;>omega
theorem tstep_end {t t':Tak} {w e:Int} (hs:TStep t w t' true e):t'.pc=0:=by cases hs<;>rfl
section
variable {i j a b R:Nat} {gu tu:Bool} {g g':Giv} {t t':Tak} {G G':Gho} {pi pj:List Rec} {ci cj:Option Rec} {w e:Int} {d:Bool} {x:Rec}
theorem sr_none {L:Nat} (h:∀x,ci=some x→ ¬x.ofG j):srOf j L g ci= []:=by
 unfold srOf
 cases ci with
 | none=>rfl
 | some x=>exact if_neg (fun q=>h x rfl ⟨q.1.2.1,q.1.2.2⟩)
theorem Dg.gstay (h:Dg i j a b true tu g t G pi ci pj cj) (hx:ci=some x) (hxj:x.ofG j) (hs:GStep g w g' false e) (wf:GWf a b R g) (h1:g.pc=1∨g.pc=15→w=(b:Int)) (o0: ¬g.inn b→G.log= []) (nx:g.inn b→G.log.length=g.next+if g.shown then 1 else 0)
  (hlog:G'.log=G.log∨g.inn b∧g.pc=12∧G'.log=G.log ++ [(g.d,g.load)]) (hhd:G'.hd=G.hd) (hdl:G.hd≤G.log.length):Dg i j a b true tu g' t G' pi ci pj cj:=by
 obtain ⟨now,old,lki,lkj,rung,idleg,runt,idlet⟩:=h
 obtain ⟨s0,s1,s2⟩:=gstep_stay hs
 have hld:=gstep_load hs
 obtain ⟨r1,r2,r3,r4,r5,r6⟩:=rung x hx hxj
 have hsr:∀L, ∀y∈srOf j L g ci,y∈srOf j L g' ci:=by
  intro L y hy
  rw [hx] at hy ⊢
  simp only [srOf] at hy ⊢
  by_cases q:x.isSend j L∧g.shown
  ·rw [if_pos q] at hy
   rw [if_pos ⟨q.1,s1 q.2⟩]
   exact hy
  ·rw [if_neg q] at hy
   cases hy
 refine ⟨?_,fun L hL=> ?_,lki,lkj,fun y hy hyj=> ?_,fun _ q=>absurd hxj (q x hx),runt,idlet⟩
 ·obtain ⟨s,hdl',hsn⟩:=now
  have hnext:g.inn b→g'.next=g.next:=by
   intro _
   cases hs<;>rfl
  have hnew: ¬g.inn b→g'.inn b→g'.next=0:=by
   intro q q'
   have:=wf.wfF
   have:=wf.wf6
   have:=wf.pcm
   cases hs<;>simp only [Giv.inn] at * <;> grind
  rcases hlog with hl|⟨l1,l2,l3⟩
  ·rw [hl,hhd]
   refine ⟨s,hdl'.weak (hsr _),fun _ q=> ?_⟩
   by_cases qi:g.inn b
   ·rw [hnext qi];exact hsn rfl qi
   ·have h0:=hdl'.le
    rw [o0 qi] at h0
    rw [hnew qi q]
    simp [loadsOf] at h0
    exact h0
  ·have hs1:=hsn rfl l1
   have hnx:=nx l1
   have hnsh: ¬g.shown:=by simp only [Giv.shown];omega
   rw [if_neg hnsh] at hnx
   have hV:x.link=a+b:=by
    have:=l1.2.1
    omega
   have hsh':g'.shown:=by
    cases hs<;>simp only [Giv.shown]<;>omega
   rw [l3,hhd]
   have e1:loadsOf (G.log ++ [(g.d,g.load)])=loadsOf G.log ++ [x.load]:=by simp [loadsOf,r4]
   rw [e1]
   refine ⟨s,hdl'.show_ (by rw [loadsOf_len];omega) (by rw [loadsOf_len];exact hdl) _ ?_,fun _ _=>by rw [hnext l1];exact hs1⟩
   rw [hx]
   simp only [srOf]
   rw [if_pos ⟨⟨hV,hxj.1,hxj.2⟩,hsh'⟩]
   simp
 ·obtain ⟨ll,s,k,q⟩:=old L hL
  exact ⟨ll,s,k,q.weak (hsr L)⟩
 ·rw [hx] at hy
  injection hy with hy
  subst hy
  refine ⟨rfl,s0,r3,by rw [hld];exact r4,r5, ?_⟩
  have:=wf.pcm
  cases hs<;>grind
theorem Dg.gend (h:Dg i j a b true tu g t G pi ci pj cj) (hx:ci=some x) (hxj:x.ofG j) (hs:GStep g w g' true e) (wf:GWf a b R g) (h1:g.pc=1∨g.pc=15→w=(b:Int)) (nx:g.inn b→G.log.length=g.next+if g.shown then 1 else 0) (hsh:g.inn b→g.shown→(G.log.getD g.next (0, [])).2=g.load)
  (hlim:G.log.length<60000) (hlog:G'.log=G.log) (hhd:G'.hd=G.hd) (y:Rec) (hy:y= { x with fin:=true,err:=e }):Dg i j a b true tu g' t G' (pi ++ [y]) none pj cj:=by
 obtain ⟨now,old,lki,lkj,rung,idleg,runt,idlet⟩:=h
 have s0:=gstep_end hs
 obtain ⟨r1,r2,r3,r4,r5,r6⟩:=rung x hx hxj
 have hyl:y.link=x.link:=by rw [hy]
 have hyk:y.kind=x.kind:=by rw [hy]
 have hyp:y.peer=x.peer:=by rw [hy]
 have hyf:y.fin=true:=by rw [hy]
 have hye:y.err=e:=by rw [hy]
 have hyo:y.load=x.load:=by rw [hy]
 have hys:∀L,y.isSend j L ↔ x.isSend j L:=fun L=>by simp only [Rec.isSend,hyl,hyk,hyp]
 have hend:g.shown→e=8∨e=0:=by
  intro q
  simp only [Giv.shown] at q
  cases hs<;>grind
 have hok:e=0→g.inn b∧g.shown∧x.link=a+b∧g'.next=g.next+1∧g'.inn b:=by
  intro q
  have hw6:=wf.wf6
  have han:=wf.ans
  cases hs with
  | settle p=>omega
  | down p q'=>omega
  | reset p q'=>omega
  | sent p q' r=>
   have hk:=h1 (.inr p)
   have hi:g.inn b:=⟨hw6 (by omega),by omega,by omega,by omega,by omega⟩
   have hs':g.shown:= .inr (.inr ⟨p,r⟩)
   have:=nx hi
   rw [if_pos hs'] at this
   refine ⟨hi,hs',by omega, ?_,hi.1,hi.2.1,by simp,by simp,by simp⟩
   show (g.next+1)%65536=_
   omega
  | told p q' r=>exact absurd q r
 have hnon:e≠0→∀L ll s k,DL i j L ll s k pi pj (srOf j L g ci)→DL i j L ll s k (pi ++ [y]) pj (srOf j L g' none):=by
  intro q L ll s k hd
  refine hd.over (fun r=>q (by rw [←hye];exact r.2.2)) (fun z hz=> .inr ?_)
  rw [hx] at hz
  simp only [srOf] at hz
  by_cases hc:x.isSend j L∧g.shown
  ·rw [if_pos hc] at hz
   refine ⟨(hys L).2 hc.1, .inr ?_,by rw [hyo];simpa using hz⟩
   rw [hye]
   rcases hend hc.2 with r|r
   ·exact r
   ·exact absurd r q
  ·rw [if_neg hc] at hz;cases hz
 refine ⟨?_,fun L hL=> ?_,fun z hz hzj=> ?_,lkj,fun z hz=>(by cases hz),fun _ _=>s0,runt,idlet⟩
 ·obtain ⟨s,hdl',hsn⟩:=now
  rw [hlog,hhd]
  by_cases he:e=0
  ·obtain ⟨o1,o2,o3,o4,o5⟩:=hok he
   have hs1:=hsn rfl o1
   have hnx:=nx o1
   rw [if_pos o2] at hnx
   refine ⟨s+1,hdl'.sentOK ((hys _).2 ⟨o3,hxj.1,hxj.2⟩) hyf (by rw [hye];exact he) (by rw [loadsOf_len];omega) ?_,fun _ _=>by omega⟩
   rw [loadsOf_get _ _ (by omega),hs1,hsh o1 o2,hyo,r4]
  ·refine ⟨s,hnon he _ _ _ _ hdl',fun _ q=> ?_⟩
   have:g.inn b∧g'.next=g.next:=by
    have hw6:=wf.wf6
    cases hs<;>simp only [Giv.inn] at * <;> grind
   rw [this.2]
   exact hsn rfl this.1
 ·obtain ⟨ll,s,k,q⟩:=old L hL
  by_cases he:e=0
  ·obtain ⟨o1,o2,o3,o4,o5⟩:=hok he
   refine ⟨ll,s,k,q.over (fun r=>by have:=r.1.1;omega) (fun z hz=> ?_)⟩
   rw [hx] at hz
   simp only [srOf] at hz
   rw [if_neg (fun r=>by have:=r.1.1;omega)] at hz
   cases hz
  ·exact ⟨ll,s,k,hnon he _ _ _ _ q⟩
 ·rcases List.mem_append.1 hz with hz|hz
  ·exact lki z hz hzj
  ·rw [List.mem_singleton.1 hz,hyl];exact r5
theorem Dg.iother (h:Dg i j a b gu tu g t G pi ci pj cj) (hc:∀x,ci=some x→ ¬x.ofG j) (y:Rec) (hy: ¬y.ofG j) (ci':Option Rec) (hc':∀x,ci'=some x→ ¬x.ofG j):Dg i j a b gu tu g t G (pi ++ [y]) ci' pj cj:=by
 obtain ⟨now,old,lki,lkj,rung,idleg,runt,idlet⟩:=h
 have hdl:∀L ll s k,DL i j L ll s k pi pj (srOf j L g ci)→DL i j L ll s k (pi ++ [y]) pj (srOf j L g ci'):=by
  intro L ll s k q
  refine q.over (fun r=>hy ⟨r.1.2.1,r.1.2.2⟩) (fun z hz=> ?_)
  rw [sr_none hc] at hz
  cases hz
 refine ⟨?_,fun L hL=> ?_,fun z hz hzj=> ?_,lkj,fun z hz hzj=>absurd hzj (hc' z hz),fun q _=>idleg q hc,runt,idlet⟩
 ·obtain ⟨s,q,r⟩:=now
  exact ⟨s,hdl _ _ _ _ q,r⟩
 ·obtain ⟨ll,s,k,q⟩:=old L hL
  exact ⟨ll,s,k,hdl _ _ _ _ q⟩
 ·rcases List.mem_append.1 hz with hz|hz
  ·exact lki z hz hzj
  ·rw [List.mem_singleton.1 hz] at hzj;exact absurd hzj hy
theorem Dg.ibegin (h:Dg i j a b gu tu g t G pi ci pj cj) (hc:∀x,ci=some x→ ¬x.ofG j) (ci':Option Rec) (hc':∀x,ci'=some x→ ¬x.ofG j):Dg i j a b gu tu g t G pi ci' pj cj:=by
 obtain ⟨now,old,lki,lkj,rung,idleg,runt,idlet⟩:=h
 refine ⟨?_,fun L hL=> ?_,lki,lkj,fun z hz hzj=>absurd hzj (hc' z hz),fun q _=>idleg q hc,runt,idlet⟩
 ·obtain ⟨s,q,r⟩:=now
  rw [sr_none hc] at q
  exact ⟨s,by rw [sr_none hc'];exact q,r⟩
 ·obtain ⟨ll,s,k,q⟩:=old L hL
  rw [sr_none hc] at q
  exact ⟨ll,s,k,by rw [sr_none hc'];exact q⟩
theorem Dg.gbegin (h:Dg i j a b true tu g t G pi ci pj cj) (hc:∀x,ci=some x→ ¬x.ofG j) (l:List Nat) (x:Rec) (hx:x.ofG j) (h1:x.fin=false) (h2:x.load=l.map (Nat.cast:Nat→Int)) (h3:x.link=a+b) (h0:g.pc=0):Dg i j a b true tu { g with load:=l,pc:=1 } t G pi (some x) pj cj:=by
 obtain ⟨now,old,lki,lkj,rung,idleg,runt,idlet⟩:=h
 have hsr:∀L,srOf j L { g with load:=l,pc:=1 } (some x)= []:=fun L=>by
  simp only [srOf]
  exact if_neg (fun q=>by simp [Giv.shown] at q)
 refine ⟨?_,fun L hL=> ?_,lki,lkj,fun z hz hzj=> ?_,fun _ q=>absurd hx (q x rfl),runt,idlet⟩
 ·obtain ⟨s,q,r⟩:=now
  rw [sr_none hc] at q
  refine ⟨s,by rw [hsr];exact q,fun q1 q2=>r q1 ?_⟩
  simp only [Giv.inn] at q2 ⊢
  exact ⟨q2.1,q2.2.1,by omega,by omega,by omega⟩
 ·obtain ⟨ll,s,k,q⟩:=old L hL
  rw [sr_none hc] at q
  exact ⟨ll,s,k,by rw [hsr];exact q⟩
 ·injection hz with hz
  subst hz
  exact ⟨rfl,by simp,h1,h2,by omega, .inl h3⟩
theorem Dg.ihold (h:Dg i j a b gu tu g t G pi ci pj cj) (hf:∀x,ci=some x→x.fin=false) (hhd:G'.log=G.log∧G'.hd=G.hd):Dg i j a b false tu g t G' (pi++ci.toList) none pj cj:=by
 cases ci with
 | none=>
  obtain ⟨now,old,lki,lkj,rung,idleg,runt,idlet⟩:=h
  rw [Option.toList_none,List.append_nil]
  refine ⟨?_,old,lki,lkj,fun z hz=>(by cases hz),fun q=>(by cases q),runt,idlet⟩
  obtain ⟨s,q,r⟩:=now
  exact ⟨s,by rw [hhd.1,hhd.2];exact q,fun q=>(by cases q)⟩
 | some x=>
  obtain ⟨now,old,lki,lkj,rung,idleg,runt,idlet⟩:=h
  have hxf:=hf x rfl
  have hdl:∀L ll s k,DL i j L ll s k pi pj (srOf j L g (some x))→DL i j L ll s k (pi ++ [x]) pj (srOf j L g none):=by
   intro L ll s k q
   refine q.over (fun r=>by rw [hxf] at r;cases r.2.1) (fun z hz=> ?_)
   simp only [srOf] at hz
   by_cases hc:x.isSend j L∧g.shown
   ·rw [if_pos hc] at hz
    exact .inr ⟨hc.1, .inl hxf,by simpa using hz⟩
   ·rw [if_neg hc] at hz;cases hz
  refine ⟨?_,fun L hL=> ?_,fun z hz hzj=> ?_,lkj,fun z hz=>(by cases hz),fun q=>(by cases q),runt,idlet⟩
  ·obtain ⟨s,q,r⟩:=now
   exact ⟨s,by rw [hhd.1,hhd.2];exact hdl _ _ _ _ q,fun q=>(by cases q)⟩
  ·obtain ⟨ll,s,k,q⟩:=old L hL
   exact ⟨ll,s,k,hdl _ _ _ _ q⟩
  ·rcases List.mem_append.1 hz with hz|hz
   ·exact lki z hz hzj
   ·rw [List.mem_singleton.1 hz] at hzj ⊢
    exact (rung x rfl hzj).2.2.2.2.1
theorem sentOf_new {L:Nat} (h:∀x∈pi,x.ofG j→x.link<L):sentOf j L pi=([], []):=by
 unfold sentOf
 have:∀(l:List Rec),(∀x∈l,x.ofG j→x.link<L)→∀s,l.foldl (sentF j L) s=s:=by
  intro l
  induction l with
  | nil=>intro _ s;rfl
  | cons y l ih=>
   intro hl s
   rw [List.foldl_cons]
   have e:sentF j L s y=s:=by
    unfold sentF
    exact if_neg (fun q=>by have:=hl y (by simp) ⟨q.2.1,q.2.2⟩;have:=q.1;omega)
   rw [e]
   exact ih (fun x hx=>hl x (List.mem_cons_of_mem _ hx)) s
 exact this pi h _
theorem gotOf_new {L:Nat} (h:∀x∈pj,x.ofT i→x.link<L):gotOf i L pj= []:=by
 unfold gotOf
 rw [List.map_eq_nil_iff,List.filter_eq_nil_iff]
 intro x hx
 simp only [decide_eq_true_eq]
 intro q
 have:=h x hx ⟨.inl q.2.1,q.2.2.1⟩
 have:=q.1
 omega
theorem Dg.old_next (h:Dg i j a b gu tu g t G pi ci pj cj) (L:Nat) (hL:L<a+b+1):∃ll s k,DL i j L ll s k pi pj (srOf j L g ci):=by
 by_cases e:L=a+b
 ·subst e
  obtain ⟨s,q,_⟩:=h.now
  exact ⟨_,s,_,q⟩
 ·exact h.old L (by omega)
theorem Dg.now_next (h:Dg i j a b gu tu g t G pi ci pj cj) (g':Giv) (hsr:∀x,ci=some x→x.ofG j→x.link≤a+b):DL i j (a+b+1) (loadsOf Gho.none_.log) 0 Gho.none_.hd pi pj (srOf j (a+b+1) g' ci):=by
 have hs:srOf j (a+b+1) g' ci= []:=by
  unfold srOf
  cases ci with
  | none=>rfl
  | some x=>exact if_neg (fun q=>by have:=hsr x rfl ⟨q.1.2.1,q.1.2.2⟩;have:=q.1.1;omega)
 rw [hs]
 refine ⟨?_,Nat.le_refl _, .inl (Nat.le_refl _), ?_⟩
 ·rw [sentOf_new (fun x hx hxj=>by have:=h.lki x hx hxj;omega)];rfl
 ·rw [gotOf_new (fun x hx hxj=>by have:=h.lkj x hx hxj;omega)];rfl
theorem Dg.istart (h:Dg i j a b false tu g t G pi none pj cj) (hg:g'.New (a+1) R) (hk:tu=true→t.known≤(a:Int)):Dg i j (a+1) b true tu g' t Gho.none_ pi none pj cj:=by
 have hV:a+1+b=a+b+1:=by omega
 have hsr:∀L (g:Giv),srOf j L g none= []:=fun L g=>rfl
 refine ⟨⟨0, ?_,fun _ q=> ?_⟩,fun L hL=> ?_,fun x hx hxj=> ?_,fun x hx hxj=> ?_,fun x hx=>(by cases hx),fun _ _=>hg.pc,fun x hx hxj=> ?_,h.idlet⟩
 ·rw [hV];exact h.now_next g' (fun x hx=>by cases hx)
 ·have:=q.1;rw [hg.linked] at this;cases this
 ·exact h.old_next L (by omega)
 ·have:=h.lki x hx hxj;omega
 ·have:=h.lkj x hx hxj;omega
 ·obtain ⟨q1,q2,q3,q4,q5,q6⟩:=h.runt x hx hxj
  have:=hk q1
  exact ⟨q1,q2,q3,q4,by omega, .inr (.inl (by omega))⟩
theorem Dg.jstart (h:Dg i j a b gu false g t G pi ci pj none) (ht:t'.New (b+1) R) (hk:gu=true→g.known≤(b:Int)):Dg i j a (b+1) gu true g t' Gho.none_ pi ci pj none:=by
 have hV:a+(b+1)=a+b+1:=by omega
 refine ⟨⟨0, ?_,fun q1 q=> ?_⟩,fun L hL=> ?_,fun x hx hxj=> ?_,fun x hx hxj=> ?_,fun x hx hxj=> ?_,h.idleg,fun x hx=>(by cases hx),fun _ _=>ht.pc⟩
 ·rw [hV];exact h.now_next g (fun x hx hxj=>(h.rung x hx hxj).2.2.2.2.1)
 ·have:=hk q1;have:=q.2.1;omega
 ·exact h.old_next L (by omega)
 ·have:=h.lki x hx hxj;omega
 ·have:=h.lkj x hx hxj;omega
 ·obtain ⟨q1,q2,q3,q4,q5,q6⟩:=h.rung x hx hxj
  have:=hk q1
  exact ⟨q1,q2,q3,q4,by omega, .inr (.inl (by omega))⟩
theorem Dg.tstay (h:Dg i j a b gu true g t G pi ci pj cj) (hx:cj=some x) (hxj:x.ofT i) (hs:TStep t w t' false e) (wf:TWf a b R t) (h1:t.pc=1∨t.pc=14→w=(a:Int)) (hhd:G'.log=G.log∧G'.hd=G.hd):Dg i j a b gu true g t' G' pi ci pj cj:=by
 obtain ⟨now,old,lki,lkj,rung,idleg,runt,idlet⟩:=h
 obtain ⟨s0,s1⟩:=tstep_stay hs
 obtain ⟨r1,r2,r3,r4,r5,r6⟩:=runt x hx hxj
 refine ⟨by rw [hhd.1,hhd.2];exact now,old,lki,lkj,rung,idleg,fun y hy hyj=> ?_,fun _ q=>absurd hxj (q x hx)⟩
 rw [hx] at hy
 injection hy with hy
 subst hy
 refine ⟨rfl,s0,r3,by rw [s1];exact r4,r5, ?_⟩
 have:=wf.pcm
 cases hs<;>grind
theorem Dg.tend (h:Dg i j a b gu true g t G pi ci pj cj) (hx:cj=some x) (hxj:x.ofT i) (hs:TStep t w t' true e) (wf:TWf a b R t) (h1:t.pc=1∨t.pc=14→w=(a:Int)) (hl:t.inn a→t.read→t.load=(G.log.getD G.hd (0, [])).2)
  (hlog:G'.log=G.log) (hhd:G'.hd=G.hd∧ ¬(t.inn a∧t.read∧true=true)∨t.inn a∧t.read∧e=0∧G.hd<G.log.length∧G'.hd=G.hd+1) (y:Rec) (hy1:y.kind=x.kind) (hy2:y.peer=x.peer) (hy3:y.fin=true) (hy4:y.err=e) (hy5:x.kind=2→e=0→y.load=t.load.map (Nat.cast:Nat→Int)) (hy6:y.link=x.link):Dg i j a b gu true g t' G' pi ci (pj ++ [y]) none:=by
 obtain ⟨now,old,lki,lkj,rung,idleg,runt,idlet⟩:=h
 have s0:=tstep_end hs
 obtain ⟨r1,r2,r3,r4,r5,r6⟩:=runt x hx hxj
 have hgot:∀L,y.isGot i L→t.inn a∧t.read∧L=a+b:=by
  rintro L ⟨q1,q2,q3,q4,q5⟩
  rw [hy4] at q5
  rw [hy1] at q2
  have hb:t.back=false:=by
   cases hb:t.back with
   | false=>rfl
   | true=>have:=r4.2 hb;omega
  have hw6:=wf.wf6
  cases hs with
  | settle p=>omega
  | down p q'=>omega
  | reset p q'=>omega
  | told p q' r=>exact absurd q5 r
  | freed p q' r s=>rw [s] at hb;cases hb
  | came p q' r s=>
   have hk:=h1 (.inr p)
   exact ⟨⟨hw6 (by omega),by omega,by omega,by omega,by omega⟩,⟨p,s,r⟩,by omega⟩
 refine ⟨?_,fun L hL=> ?_,lki,fun z hz hzj=> ?_,rung,idleg,fun z hz=>(by cases hz),fun _ _=>s0⟩
 ·obtain ⟨s,q,r⟩:=now
  rcases hhd with ⟨h2,h3⟩|⟨h2,h3,h4,h5,h6⟩
  ·rw [hlog,h2]
   exact ⟨s,q.other (fun q'=>h3 ⟨(hgot _ q').1,(hgot _ q').2.1,rfl⟩),r⟩
  ·rw [hlog,h6]
   have hk2:x.kind=2:=by
    rcases hxj.1 with k|k
    ·exact k
    ·have:=r4.1 k
     rw [h3.2.1] at this;cases this
   have hV:x.link=a+b:=by
    have:=h2.2.1
    have:=h3.1
    omega
   refine ⟨s,q.gotOK ⟨by rw [hy6];exact hV,by rw [hy1];exact hk2,by rw [hy2];exact hxj.2,hy3,by rw [hy4];exact h4⟩ (by rw [loadsOf_len];exact h5) ?_,r⟩
   rw [loadsOf_get _ _ h5,hy5 hk2 h4,hl h2 h3]
 ·obtain ⟨ll,s,k,q⟩:=old L hL
  exact ⟨ll,s,k,q.other (fun q'=>by have:=(hgot _ q').2.2;omega)⟩
 ·rcases List.mem_append.1 hz with hz|hz
  ·exact lkj z hz hzj
  ·rw [List.mem_singleton.1 hz,hy6];exact r5
theorem Dg.jother (h:Dg i j a b gu tu g t G pi ci pj cj) (hc:∀x,cj=some x→ ¬x.ofT i) (y:Rec) (hy: ¬y.ofT i) (cj':Option Rec) (hc':∀x,cj'=some x→ ¬x.ofT i):Dg i j a b gu tu g t G pi ci (pj ++ [y]) cj':=by
 obtain ⟨now,old,lki,lkj,rung,idleg,runt,idlet⟩:=h
 have hng:∀L, ¬y.isGot i L:=fun L q=>hy ⟨.inl q.2.1,q.2.2.1⟩
 refine ⟨?_,fun L hL=> ?_,lki,fun z hz hzj=> ?_,rung,idleg,fun z hz hzj=>absurd hzj (hc' z hz),fun q _=>idlet q hc⟩
 ·obtain ⟨s,q,r⟩:=now
  exact ⟨s,q.other (hng _),r⟩
 ·obtain ⟨ll,s,k,q⟩:=old L hL
  exact ⟨ll,s,k,q.other (hng _)⟩
 ·rcases List.mem_append.1 hz with hz|hz
  ·exact lkj z hz hzj
  ·rw [List.mem_singleton.1 hz] at hzj;exact absurd hzj hy
theorem Dg.jbegin (h:Dg i j a b gu tu g t G pi ci pj cj) (hc:∀x,cj=some x→ ¬x.ofT i) (cj':Option Rec) (hc':∀x,cj'=some x→ ¬x.ofT i):Dg i j a b gu tu g t G pi ci pj cj':=
 ⟨h.now,h.old,h.lki,h.lkj,h.rung,h.idleg,fun z hz hzj=>absurd hzj (hc' z hz),fun q _=>h.idlet q hc⟩
theorem Dg.tbegin (h:Dg i j a b gu true g t G pi ci pj cj) (hc:∀x,cj=some x→ ¬x.ofT i) (x:Rec) (hx:x.ofT i) (h1:x.fin=false) (h2:x.kind=3 ↔ t'.back=true) (h3:x.link=a+b) (h0:t'.pc=1):Dg i j a b gu true g t' G pi ci pj (some x):=
 ⟨h.now,h.old,h.lki,h.lkj,h.rung,h.idleg,fun z hz hzj=>by injection hz with hz;subst hz;exact ⟨rfl,by omega,h1,h2,by omega, .inl h3⟩,fun _ q=>absurd hx (q x rfl)⟩
theorem Dg.jhold (h:Dg i j a b gu tu g t G pi ci pj cj) (hf:∀x,cj=some x→x.fin=false):Dg i j a b gu false g t G pi ci (pj++cj.toList) none:=by
 cases cj with
 | none=>
  rw [Option.toList_none,List.append_nil]
  exact ⟨h.now,h.old,h.lki,h.lkj,h.rung,h.idleg,fun z hz=>(by cases hz),fun q=>(by cases q)⟩
 | some x=>
  obtain ⟨now,old,lki,lkj,rung,idleg,runt,idlet⟩:=h
  have hxf:=hf x rfl
  have hng:∀L, ¬x.isGot i L:=fun L q=>by have:=q.2.2.2.1;rw [hxf] at this;cases this
  refine ⟨?_,fun L hL=> ?_,lki,fun z hz hzj=> ?_,rung,idleg,fun z hz=>(by cases hz),fun q=>(by cases q)⟩
  ·obtain ⟨s,q,r⟩:=now
   exact ⟨s,q.other (hng _),r⟩
  ·obtain ⟨ll,s,k,q⟩:=old L hL
   exact ⟨ll,s,k,q.other (hng _)⟩
  ·rcases List.mem_append.1 hz with hz|hz
   ·exact lkj z hz hzj
   ·rw [List.mem_singleton.1 hz] at hzj ⊢
    exact (runt x rfl hzj).2.2.2.2.1
theorem Dg.first (hg:g.New 0 R) (ht:t.New 0 R):Dg i j 0 0 true true g t Gho.none_ [] none [] none:=
 ⟨⟨0,⟨rfl,Nat.le_refl _, .inl (Nat.le_refl _),rfl⟩,fun _ q=>by have:=q.1;rw [hg.linked] at this;cases this⟩,fun L hL=>by omega,fun x hx=>(by cases hx),fun x hx=>(by cases hx),fun x hx=>(by cases hx),fun _ _=>hg.pc,fun x hx=>(by cases hx),fun _ _=>ht.pc⟩
end
end Go.Proofs.YtaaffebnajjfhaaGreatDoor.T
