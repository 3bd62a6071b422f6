/- Texts of this proof, merged: View, BoardA. -/
import Derived.Test.YtaaffebnajjfhaaGreatDoorH21
import Derived.Test.YtaaffebnajjfhaaGreatDoorH22
namespace Go.Proofs.YtaaffebnajjfhaaGreatDoor.T
set_option linter.unusedVariables false
set_option linter.unusedSimpArgs false
set_option linter.unusedSectionVars false
open Go.RowKit
def sts:(Nat→Nat)→List (Nat × Nat)→List (Nat→Nat)
 | m, []=> [m]
 | m,x :: r=>m :: sts (upd m x.1 x.2) r
theorem sts_ne (m:Nat→Nat) (l:List (Nat × Nat)):sts m l≠ []:=by cases l<;>simp [sts]
theorem sts_head (m:Nat→Nat) (l:List (Nat × Nat)):(sts m l).head? = some m:=by cases l<;>rfl
theorem sts_last (m:Nat→Nat) (l:List (Nat × Nat)):(sts m l).getLast? = some (applyAll m l):=by
 induction l generalizing m with
 | nil=>rfl
 | cons x r ih=>
  simp only [sts]
  rw [List.getLast?_cons,ih]
  rfl
theorem sts_push (m:Nat→Nat) (l:List (Nat × Nat)) (x:Nat × Nat):sts m (l ++ [x])=sts m l ++ [upd (applyAll m l) x.1 x.2]:=by
 induction l generalizing m with
 | nil=>rfl
 | cons y r ih=>simp only [List.cons_append,sts,ih];rfl
theorem sts_tail (m:Nat→Nat) (l:List (Nat × Nat)):Shrunk (sts m l) (sts (drM m l) l.tail):=by
 cases l with
 | nil=>exact Shrunk.refl (sts_ne _ _)
 | cons x r=>
  refine ⟨List.sublist_cons_self _ _,sts_ne _ _, ?_⟩
  rw [sts_last,sts_last]
  rfl
theorem sts_flush (m:Nat→Nat) (l:List (Nat × Nat)):Shrunk (sts m l) (sts (applyAll m l) []):=
 ⟨List.singleton_sublist.2 (List.mem_of_getLast? (sts_last m l)),sts_ne _ _,by rw [sts_last,sts_last];rfl⟩
theorem Shrunk.map {α β : Type} {l l':List α} (h:Shrunk l l') (f: α → β):Shrunk (l.map f) (l'.map f):=
 ⟨h.1.map f,fun q=>h.2.1 (List.map_eq_nil_iff.1 q),by rw [List.getLast?_map,List.getLast?_map,h.2.2]⟩
def Looks {β : Type} (v:(Nat→Nat)→ β) (W:Nat→Prop):Prop:=∀m m',(∀a,W a→m a=m' a)→v m=v m'
theorem applyAll_other {l:List (Nat × Nat)} {a:Nat} (h:∀x∈l,x.1≠a) (m:Nat→Nat):applyAll m l a=m a:=by
 induction l generalizing m with
 | nil=>rfl
 | cons x r ih=>
  show applyAll (upd m x.1 x.2) r a=m a
  rw [ih (fun y hy=>h y (List.mem_cons_of_mem _ hy)),upd_other _ _ _ _ (Ne.symm (h x (by simp)))]
theorem sts_looks {β : Type} {v:(Nat→Nat)→ β} {W:Nat→Prop} (hv:Looks v W) {m m':Nat→Nat} (h:∀a,W a→m a=m' a) (l:List (Nat × Nat)):(sts m l).map v=(sts m' l).map v:=by
 induction l generalizing m m' with
 | nil=>simp only [sts,List.map_cons,List.map_nil,hv m m' h]
 | cons x r ih=>
  simp only [sts,List.map_cons]
  rw [hv m m' h,ih (m:=upd m x.1 x.2) (m':=upd m' x.1 x.2)]
  intro a ha
  unfold upd
  split
  ·rfl
  ·exact h a ha
theorem seen_other {l:List (Nat × Nat)} {a:Nat} (h:∀x∈l,x.1≠a) (m:Nat→Nat):seen m l a=m a:=by
 unfold seen lastOf
 have:l.reverse.find? (fun x=>x.1 == a)=none:=by
  rw [List.find?_eq_none]
  intro x hx
  have:=h x (List.mem_reverse.1 hx)
  simpa using this
 rw [this];rfl
def isG (base R a:Nat):Prop:=a=base∨a=base+2∨(base+4≤a∧a<base+4+R)∨(base+4+2*R≤a∧a<base+4+11*R)
def isT (base R a:Nat):Prop:=a=base+1∨a=base+3∨(base+4+R≤a∧a<base+4+2*R)
def gview (base R:Nat) (m:Nat→Nat):GV:=
 ⟨m base,m (base+2),fun s=>if s<R then m (base+4+0*R+1*s+0) else 0,fun s=>if s<R then m (base+4+2*R+1*s+0) else 0,fun s k=>if s<R∧k<8 then m (base+4+3*R+8*s+k) else 0⟩
def tview (base R:Nat) (m:Nat→Nat):TV:=
 ⟨m (base+1),m (base+3),fun s=>if s<R then m (base+4+1*R+1*s+0) else 0⟩
theorem gview_looks (base R:Nat):Looks (gview base R) (isG base R):=by
 intro m m' h
 unfold gview
 rw [h base (.inl rfl),h (base+2) (.inr (.inl rfl))]
 congr 1
 ·funext s
  split
  ·exact h _ (by unfold isG;omega)
  ·rfl
 ·funext s
  split
  ·exact h _ (by unfold isG;omega)
  ·rfl
 ·funext s k
  split
  ·exact h _ (by unfold isG;omega)
  ·rfl
theorem tview_looks (base R:Nat):Looks (tview base R) (isT base R):=by
 intro m m' h
 unfold tview
 rw [h (base+1) (.inl rfl),h (base+3) (.inr (.inl rfl))]
 congr 1
 funext s
 split
 ·exact h _ (by unfold isT;omega)
 ·rfl
def Giv.stA (g:Giv):Nat × Nat:=
 if g.pc=2 then (g.base+2,0)
 else if g.pc=3 then (g.base,g.ep.toNat)
 else if g.pc=8 then (g.base+4+3*g.ring+8*g.d+g.i,g.load.getD g.i 0)
 else if g.pc=9 then (g.base+4+2*g.ring+1*g.d+0,g.load.length)
 else if g.pc=10 then (g.base+4+0*g.ring+1*(g.next%g.ring)+0,g.d)
 else (g.base+2,(g.next+1)%65536)
def Tak.stA (g:Tak):Nat × Nat:=
 if g.pc=2 then (g.base+3,0)
 else if g.pc=3 then (g.base+1,g.ep.toNat)
 else if g.pc=10 then (g.base+4+1*g.ring+1*(g.used%g.ring)+0,g.d)
 else (g.base+3,(g.used+1)%65536)
theorem Giv.tch_st (g:Giv) (h:g.stores=true):g.tch= .st g.stA.1 g.stA.2:=by
 have hp:g.pc=2∨g.pc=3∨g.pc=8∨g.pc=9∨g.pc=10∨g.pc=12:=by
  simp only [Giv.stores,Bool.or_eq_true,decide_eq_true_eq] at h
  omega
 rcases hp with p|p|p|p|p|p<;>simp [Giv.tch,Giv.stA,p]
theorem Tak.tch_st (g:Tak) (h:g.stores=true):g.tch= .st g.stA.1 g.stA.2:=by
 have hp:g.pc=2∨g.pc=3∨g.pc=10∨g.pc=12:=by
  simp only [Tak.stores,Bool.or_eq_true,decide_eq_true_eq] at h
  omega
 rcases hp with p|p|p|p<;>simp [Tak.tch,Tak.stA,p]
theorem Giv.tch_quiet (g:Giv) (h:g.stores=false) (h0:g.pc≠0) (h15:g.pc≤15):
  (g.pc=1∨g.pc=15)∧g.tch= .ep g.peer∨g.pc=5∧g.tch= .ld (g.base+1)∨g.pc=6∧g.tch= .ld (g.base+3)∨g.pc=7∧g.tch= .ld (g.base+4+1*g.ring+1*(g.tail%g.ring)+0)∨(g.pc≠1∧g.pc≠15∧g.pc≠5∧g.pc≠6∧g.pc≠7)∧(g.tch= .fence∨g.tch= .kick g.peer):=by
 have hp:g.pc=1∨g.pc=15∨g.pc=5∨g.pc=6∨g.pc=7∨g.pc=4∨g.pc=11∨g.pc=13∨g.pc=14:=by
  simp only [Giv.stores,Bool.or_eq_false_iff,decide_eq_false_iff_not] at h
  omega
 rcases hp with p|p|p|p|p|p|p|p|p<;>simp [Giv.tch,p]
theorem Tak.tch_quiet (g:Tak) (h:g.stores=false) (h0:g.pc≠0) (h15:g.pc≤14):
  (g.pc=1∨g.pc=14)∧g.tch= .ep g.peer∨g.pc=5∧g.tch= .ld g.base∨g.pc=6∧g.tch= .ld (g.base+2)∨g.pc=7∧g.tch= .ld (g.base+4+0*g.ring+1*(g.head%g.ring)+0)∨
   g.pc=8∧g.tch= .ld (g.base+4+2*g.ring+1*g.d+0)∨g.pc=9∧g.tch= .ld (g.base+4+3*g.ring+8*g.d+g.load.length)∨(g.pc≠1∧g.pc≠14∧g.pc≠5∧g.pc≠6∧g.pc≠7∧g.pc≠8∧g.pc≠9)∧g.tch= .fence:=by
 have hp:g.pc=1∨g.pc=14∨g.pc=5∨g.pc=6∨g.pc=7∨g.pc=8∨g.pc=9∨g.pc=4∨g.pc=11∨g.pc=13:=by
  simp only [Tak.stores,Bool.or_eq_false_iff,decide_eq_false_iff_not] at h
  omega
 rcases hp with p|p|p|p|p|p|p|p|p|p<;>simp [Tak.tch,p]
theorem gview_put {n W:Nat} (g:Giv) (ok:g.Ok n W) (h:g.stores=true) (m:Nat→Nat):gview g.base g.ring (upd m g.stA.1 g.stA.2)=g.put (gview g.base g.ring m)∧isG g.base g.ring g.stA.1:=by
 have hp:g.pc=2∨g.pc=3∨g.pc=8∨g.pc=9∨g.pc=10∨g.pc=12:=by
  simp only [Giv.stores,Bool.or_eq_true,decide_eq_true_eq] at h
  omega
 have o1:=ok.d
 have o2:=ok.word8
 have o3:=ok.len
 have o4:=ok.r1
 rcases hp with p|p|p|p|p|p
 ·have e:g.stA=(g.base+2,0):=by simp [Giv.stA,p]
  have e2:g.put (gview g.base g.ring m)= { gview g.base g.ring m with ai:=0 }:=by simp [Giv.put,p]
  rw [e,e2]
  refine ⟨?_,by unfold isG;omega⟩
  unfold gview upd
  simp only [GV.mk.injEq]
  refine ⟨by simp,by simp, ?_, ?_, ?_⟩<;>funext s<;>(try funext k)<;>split<;>first|rfl|(rw [if_neg (by omega)])
 ·have e:g.stA=(g.base,g.ep.toNat):=by simp [Giv.stA,p]
  have e2:g.put (gview g.base g.ring m)= { gview g.base g.ring m with pe:=g.ep.toNat }:=by simp [Giv.put,p]
  rw [e,e2]
  refine ⟨?_,by unfold isG;omega⟩
  unfold gview upd
  simp only [GV.mk.injEq]
  refine ⟨by simp,by simp, ?_, ?_, ?_⟩<;>funext s<;>(try funext k)<;>split<;>first|rfl|(rw [if_neg (by omega)])
 ·have hd:=o1 (by omega) (by omega)
  have hi:=o2 p
  have e:g.stA=(g.base+4+3*g.ring+8*g.d+g.i,g.load.getD g.i 0):=by simp [Giv.stA,p]
  have e2:g.put (gview g.base g.ring m)= { gview g.base g.ring m with load:=put2 (gview g.base g.ring m).load g.d g.i (g.load.getD g.i 0) }:=by simp [Giv.put,p]
  rw [e,e2]
  refine ⟨?_,by unfold isG;omega⟩
  unfold gview upd put2
  simp only [GV.mk.injEq]
  refine ⟨by rw [if_neg (by omega)],by rw [if_neg (by omega)], ?_, ?_, ?_⟩
  ·funext s;split
   ·rw [if_neg (by omega)]
   ·rfl
  ·funext s;split
   ·rw [if_neg (by omega)]
   ·rfl
  ·funext s k
   by_cases q:s=g.d∧k=g.i
   ·rw [if_pos (by omega),if_pos (by omega),if_pos q]
   ·rw [if_neg q]
    split
    ·rw [if_neg (by omega)]
    ·rfl
 ·have hd:=o1 (by omega) (by omega)
  have e:g.stA=(g.base+4+2*g.ring+1*g.d+0,g.load.length):=by simp [Giv.stA,p]
  have e2:g.put (gview g.base g.ring m)= { gview g.base g.ring m with len:=put1 (gview g.base g.ring m).len g.d g.load.length }:=by simp [Giv.put,p]
  rw [e,e2]
  refine ⟨?_,by unfold isG;omega⟩
  unfold gview upd put1
  simp only [GV.mk.injEq]
  refine ⟨by rw [if_neg (by omega)],by rw [if_neg (by omega)], ?_, ?_, ?_⟩
  ·funext s;split
   ·rw [if_neg (by omega)]
   ·rfl
  ·funext s
   by_cases q:s=g.d
   ·rw [if_pos (by omega),if_pos (by omega),if_pos q]
   ·rw [if_neg q]
    split
    ·rw [if_neg (by omega)]
    ·rfl
  ·funext s k;split
   ·rw [if_neg (by omega)]
   ·rfl
 ·have hd:=o1 (by omega) (by omega)
  have hm:g.next%g.ring<g.ring:=Nat.mod_lt _ (by omega)
  have e:g.stA=(g.base+4+0*g.ring+1*(g.next%g.ring)+0,g.d):=by simp [Giv.stA,p]
  have e2:g.put (gview g.base g.ring m)= { gview g.base g.ring m with avail:=put1 (gview g.base g.ring m).avail (g.next%g.ring) g.d }:=by simp [Giv.put,p]
  rw [e,e2]
  generalize g.next%g.ring=x at *
  refine ⟨?_,by unfold isG;omega⟩
  unfold gview upd put1
  simp only [GV.mk.injEq]
  refine ⟨by rw [if_neg (by omega)],by rw [if_neg (by omega)], ?_, ?_, ?_⟩
  ·funext s
   by_cases q:s=x
   ·rw [if_pos (by omega),if_pos (by omega),if_pos q]
   ·rw [if_neg q]
    split
    ·rw [if_neg (by omega)]
    ·rfl
  ·funext s;split
   ·rw [if_neg (by omega)]
   ·rfl
  ·funext s k;split
   ·rw [if_neg (by omega)]
   ·rfl
 ·have e:g.stA=(g.base+2,(g.next+1)%65536):=by simp [Giv.stA,p]
  have e2:g.put (gview g.base g.ring m)= { gview g.base g.ring m with ai:=(g.next+1)%65536 }:=by simp [Giv.put,p]
  rw [e,e2]
  refine ⟨?_,by unfold isG;omega⟩
  unfold gview upd
  simp only [GV.mk.injEq]
  refine ⟨by simp,by simp, ?_, ?_, ?_⟩<;>funext s<;>(try funext k)<;>split<;>first|rfl|(rw [if_neg (by omega)])
theorem tview_put {n W:Nat} (g:Tak) (ok:g.Ok n W) (h:g.stores=true) (m:Nat→Nat):tview g.base g.ring (upd m g.stA.1 g.stA.2)=g.put (tview g.base g.ring m)∧isT g.base g.ring g.stA.1:=by
 have hp:g.pc=2∨g.pc=3∨g.pc=10∨g.pc=12:=by
  simp only [Tak.stores,Bool.or_eq_true,decide_eq_true_eq] at h
  omega
 have o4:=ok.r1
 rcases hp with p|p|p|p
 ·have e:g.stA=(g.base+3,0):=by simp [Tak.stA,p]
  have e2:g.put (tview g.base g.ring m)= { tview g.base g.ring m with ui:=0 }:=by simp [Tak.put,p]
  rw [e,e2]
  refine ⟨?_,by unfold isT;omega⟩
  unfold tview upd
  simp only [TV.mk.injEq]
  refine ⟨by simp,by simp, ?_⟩
  funext s;split
  ·rw [if_neg (by omega)]
  ·rfl
 ·have e:g.stA=(g.base+1,g.ep.toNat):=by simp [Tak.stA,p]
  have e2:g.put (tview g.base g.ring m)= { tview g.base g.ring m with ce:=g.ep.toNat }:=by simp [Tak.put,p]
  rw [e,e2]
  refine ⟨?_,by unfold isT;omega⟩
  unfold tview upd
  simp only [TV.mk.injEq]
  refine ⟨by simp,by simp, ?_⟩
  funext s;split
  ·rw [if_neg (by omega)]
  ·rfl
 ·have hm:g.used%g.ring<g.ring:=Nat.mod_lt _ (by omega)
  have e:g.stA=(g.base+4+1*g.ring+1*(g.used%g.ring)+0,g.d):=by simp [Tak.stA,p]
  have e2:g.put (tview g.base g.ring m)= { tview g.base g.ring m with used:=put1 (tview g.base g.ring m).used (g.used%g.ring) g.d }:=by simp [Tak.put,p]
  rw [e,e2]
  generalize g.used%g.ring=x at *
  refine ⟨?_,by unfold isT;omega⟩
  unfold tview upd put1
  simp only [TV.mk.injEq]
  refine ⟨by rw [if_neg (by omega)],by rw [if_neg (by omega)], ?_⟩
  funext s
  by_cases q:s=x
  ·rw [if_pos (by omega),if_pos (by omega),if_pos q]
  ·rw [if_neg q]
   split
   ·rw [if_neg (by omega)]
   ·rfl
 ·have e:g.stA=(g.base+3,(g.used+1)%65536):=by simp [Tak.stA,p]
  have e2:g.put (tview g.base g.ring m)= { tview g.base g.ring m with ui:=(g.used+1)%65536 }:=by simp [Tak.put,p]
  rw [e,e2]
  refine ⟨?_,by unfold isT;omega⟩
  unfold tview upd
  simp only [TV.mk.injEq]
  refine ⟨by simp,by simp, ?_⟩
  funext s;split
  ·rw [if_neg (by omega)]
  ·rfl
theorem idx_inj {n i j i' j':Nat} (hi:i<n) (hj:j<n) (hij:i≠j) (hi':i'<n) (hj':j'<n) (hij':i'≠j') (h:(i*(n-1)+if i<j then j-1 else j)=(i'*(n-1)+if i'<j' then j'-1 else j')):i=i'∧j=j':=by
 obtain ⟨k,rfl⟩:∃k,n=k+1:=⟨n-1,by omega⟩
 simp only [Nat.add_sub_cancel] at h
 have h1:(if i<j then j-1 else j)<k:=by split<;>omega
 have h2:(if i'<j' then j'-1 else j')<k:=by split<;>omega
 have key:∀ {x y p q:Nat},p<k→q<k→x*k+p=y*k+q→x=y:=by
  intro x y p q hp hq e
  rcases Nat.lt_trichotomy x y with hlt|he|hlt
  ·have:=Nat.mul_le_mul_right k hlt
   rw [Nat.succ_mul] at this
   omega
  ·exact he
  ·have:=Nat.mul_le_mul_right k hlt
   rw [Nat.succ_mul] at this
   omega
 have e:=key h1 h2 h
 subst e
 refine ⟨rfl, ?_⟩
 have h3:(if i<j then j-1 else j)=(if i<j' then j'-1 else j'):=by omega
 split at h3<;>split at h3<;>omega
theorem region_inj {n R i j i' j' a:Nat} (hi:i<n) (hj:j<n) (hij:i≠j) (hi':i'<n) (hj':j'<n) (hij':i'≠j') (h1:chanBase n R i j≤a) (h2:a<chanBase n R i j+(4+11*R)) (h3:chanBase n R i' j'≤a) (h4:a<chanBase n R i' j'+(4+11*R)):i=i'∧j=j':=by
 unfold chanBase at *
 refine idx_inj hi hj hij hi' hj' hij' ?_
 generalize (i*(n-1)+if i<j then j-1 else j)=x at *
 generalize (i'*(n-1)+if i'<j' then j'-1 else j')=y at *
 generalize 4+11*R=s at *
 rcases Nat.lt_trichotomy x y with hlt|he|hlt
 ·have:=Nat.mul_le_mul_right s hlt
  rw [Nat.succ_mul] at this
  omega
 ·exact he
 ·have:=Nat.mul_le_mul_right s hlt
  rw [Nat.succ_mul] at this
  omega
theorem isG_in {base R a:Nat} (h:isG base R a):base≤a∧a<base+(4+11*R):=by unfold isG at h;omega
theorem isT_in {base R a:Nat} (h:isT base R a):base≤a∧a<base+(4+11*R):=by unfold isT at h;omega
theorem isG_isT {base R a:Nat} (h:isG base R a) (h':isT base R a):False:=by unfold isG isT at *;omega
def ownW (n R c a:Nat):Prop:=∃p,p<n∧p≠c∧(isG (chanBase n R c p) R a∨isT (chanBase n R p c) R a)
theorem own_notG {n R c i j a:Nat} (hc:c<n) (hi:i<n) (hj:j<n) (hij:i≠j) (h:ownW n R c a) (hne:c≠i): ¬isG (chanBase n R i j) R a:=by
 intro hG
 obtain ⟨p,hp,hpc,q|q⟩:=h
 ·exact hne (region_inj hc hp (Ne.symm hpc) hi hj hij (isG_in q).1 (isG_in q).2 (isG_in hG).1 (isG_in hG).2).1
 ·obtain ⟨e1,e2⟩:=region_inj hp hc hpc hi hj hij (isT_in q).1 (isT_in q).2 (isG_in hG).1 (isG_in hG).2
  subst e1 e2
  exact isG_isT hG q
theorem own_notT {n R c i j a:Nat} (hc:c<n) (hi:i<n) (hj:j<n) (hij:i≠j) (h:ownW n R c a) (hne:c≠j): ¬isT (chanBase n R i j) R a:=by
 intro hT
 obtain ⟨p,hp,hpc,q|q⟩:=h
 ·obtain ⟨e1,e2⟩:=region_inj hc hp (Ne.symm hpc) hi hj hij (isG_in q).1 (isG_in q).2 (isT_in hT).1 (isT_in hT).2
  subst e1 e2
  exact isG_isT q hT
 ·exact hne (region_inj hp hc hpc hi hj hij (isT_in q).1 (isT_in q).2 (isT_in hT).1 (isT_in hT).2).2
def SideTo {α : Type} (l l':List α):Prop:=Shrunk l l'∨∃l1 z,List.Sublist l1 l∧l.getLast? = some z∧l'=l1 ++ [z]
section
variable {E R a b:Nat} {gu tu:Bool} {g:Giv} {t:Tak} {A A1:List GV} {B B1:List TV} {G:Gho}
theorem Jn.sideA (h:Jn E R a b gu tu g t A B G) (hs:SideTo A A1):Jn E R a b gu tu g t A1 B G:=by
 rcases hs with hs|⟨l1,z,h1,h2,rfl⟩
 ·exact h.shrinkA hs
 ·exact h.idleA z h2 h1
theorem Jn.sideB (h:Jn E R a b gu tu g t A B G) (hs:SideTo B B1):Jn E R a b gu tu g t A B1 G:=by
 rcases hs with hs|⟨l1,z,h1,h2,rfl⟩
 ·exact h.shrinkB hs
 ·exact h.idleB z h2 h1
end
theorem drM_other {l:List (Nat × Nat)} {a:Nat} (h:∀x∈l,x.1≠a) (m:Nat→Nat):drM m l a=m a:=by
 cases l with
 | nil=>rfl
 | cons x r=>exact upd_other _ _ _ _ (Ne.symm (h x (by simp)))
theorem stM_other {most:Nat} {l:List (Nat × Nat)} {a:Nat} (h:∀x∈l,x.1≠a) (m:Nat→Nat):stM most m l a=m a:=by
 unfold stM
 split
 ·exact drM_other h m
 ·rfl
theorem sts_st (most:Nat) (m:Nat→Nat) (l:List (Nat × Nat)) (x:Nat × Nat):∃l1,List.Sublist l1 (sts m l)∧sts (stM most m l) (stQ most l x)=l1 ++ [upd (applyAll m l) x.1 x.2]:=by
 unfold stM stQ
 by_cases h:l.length=most
 ·rw [if_pos h,if_pos h,sts_push]
  refine ⟨_,(sts_tail m l).1, ?_⟩
  cases l<;>rfl
 ·rw [if_neg h,if_neg h,sts_push]
  exact ⟨_,List.Sublist.refl _,rfl⟩
section
variable {β : Type} {v:(Nat→Nat)→ β} {W:Nat→Prop} {most c x:Nat} {s:Sc}
theorem tch_foreign (hv:Looks v W) (hx:x≠c) (hq:∀y∈s.q c, ¬W y.1) (t:Tch):(sts (s.tch most c t).1.m ((s.tch most c t).1.q x)).map v=(sts s.m (s.q x)).map v:=by
 have hap:∀a,W a→applyAll s.m (s.q c) a=s.m a:=fun a ha=>applyAll_other (fun y hy e=>hq y hy (e ▸ ha)) _
 cases t with
 | ld a=>rfl
 | ep d=>
  show (sts (applyAll s.m (s.q c)) (upd s.q c [] x)).map v=_
  rw [upd_other _ _ _ _ hx]
  exact sts_looks hv hap _
 | kick d=>
  show (sts (applyAll s.m (s.q c)) (upd s.q c [] x)).map v=_
  rw [upd_other _ _ _ _ hx]
  exact sts_looks hv hap _
 | fence=>
  show (sts (applyAll s.m (s.q c)) (upd s.q c [] x)).map v=_
  rw [upd_other _ _ _ _ hx]
  exact sts_looks hv hap _
 | st a y=>
  show (sts (stM most s.m (s.q c)) (upd s.q c _ x)).map v=_
  rw [upd_other _ _ _ _ hx]
  exact sts_looks hv (fun a ha=>stM_other (fun y hy e=>hq y hy (e ▸ ha)) _) _
theorem tch_idle (hv:Looks v W) (t:Tch) (ht:∀a y,t= .st a y→ ¬W a):SideTo ((sts s.m (s.q c)).map v) ((sts (s.tch most c t).1.m ((s.tch most c t).1.q c)).map v):=by
 cases t with
 | ld a=>exact .inl (Shrunk.refl (fun q=>sts_ne _ _ (List.map_eq_nil_iff.1 q)))
 | ep d=>
  show SideTo _ ((sts (applyAll s.m (s.q c)) (upd s.q c [] c)).map v)
  rw [upd_same]
  exact .inl ((sts_flush _ _).map v)
 | kick d=>
  show SideTo _ ((sts (applyAll s.m (s.q c)) (upd s.q c [] c)).map v)
  rw [upd_same]
  exact .inl ((sts_flush _ _).map v)
 | fence=>
  show SideTo _ ((sts (applyAll s.m (s.q c)) (upd s.q c [] c)).map v)
  rw [upd_same]
  exact .inl ((sts_flush _ _).map v)
 | st a y=>
  show SideTo _ ((sts (stM most s.m (s.q c)) (upd s.q c (stQ most (s.q c) (a,y)) c)).map v)
  rw [upd_same]
  obtain ⟨l1,h1,h2⟩:=sts_st most s.m (s.q c) (a,y)
  rw [h2,List.map_append]
  refine .inr ⟨l1.map v,v (applyAll s.m (s.q c)),h1.map v,by rw [List.getLast?_map,sts_last];rfl, ?_⟩
  have:v (upd (applyAll s.m (s.q c)) a y)=v (applyAll s.m (s.q c)):=hv _ _ (fun k hk=>upd_other _ _ _ _ (fun e=>ht a y rfl (e ▸ hk)))
  simp only [List.map_cons,List.map_nil,this]
theorem tch_put (a y:Nat):∃l1,List.Sublist l1 ((sts s.m (s.q c)).map v)∧((sts s.m (s.q c)).map v).getLast? = some (v (applyAll s.m (s.q c)))∧(sts (s.tch most c (.st a y)).1.m ((s.tch most c (.st a y)).1.q c)).map v=l1 ++ [v (upd (applyAll s.m (s.q c)) a y)]:=by
 obtain ⟨l1,h1,h2⟩:=sts_st most s.m (s.q c) (a,y)
 refine ⟨l1.map v,h1.map v,by rw [List.getLast?_map,sts_last];rfl, ?_⟩
 show (sts (stM most s.m (s.q c)) (upd s.q c (stQ most (s.q c) (a,y)) c)).map v=_
 rw [upd_same,h2,List.map_append]
 rfl
theorem drain_foreign (hv:Looks v W) (hx:x≠c) (hq:∀y∈s.q c, ¬W y.1):(sts (drM s.m (s.q c)) (upd s.q c (s.q c).tail x)).map v=(sts s.m (s.q x)).map v:=by
 rw [upd_other _ _ _ _ hx]
 exact sts_looks hv (fun a ha=>drM_other (fun y hy e=>hq y hy (e ▸ ha)) _) _
theorem drain_own:Shrunk ((sts s.m (s.q c)).map v) ((sts (drM s.m (s.q c)) (upd s.q c (s.q c).tail c)).map v):=by
 rw [upd_same]
 exact (sts_tail _ _).map v
theorem tch_g (t:Tch):(s.tch most c t).1.g=s.g:=by cases t<;>rfl
theorem map_head:((sts s.m (s.q x)).map v).head? = some (v s.m):=by rw [List.head?_map,sts_head];rfl
end
theorem tch_q {most c:Nat} {s:Sc} (t:Tch) (P:Nat × Nat→Prop) (x:Nat) (h:∀y∈s.q x,P y) (ht:∀a y,t= .st a y→P (a,y)):∀y∈(s.tch most c t).1.q x,P y:=by
 by_cases hx:x=c
 ·subst hx
  cases t with
  | ld a=>exact h
  | ep d=>intro y hy;simp [Sc.tch,Sc.flush,upd_same] at hy
  | kick d=>intro y hy;simp [Sc.tch,Sc.flush,upd_same] at hy
  | fence=>intro y hy;simp [Sc.tch,Sc.flush,upd_same] at hy
  | st a z=>
   intro y hy
   have hy:y∈upd s.q x (stQ most (s.q x) (a,z)) x:=hy
   rw [upd_same] at hy
   unfold stQ at hy
   rcases List.mem_append.1 hy with hy|hy
   ·split at hy
    ·exact h y (List.mem_of_mem_tail hy)
    ·exact h y hy
   ·rw [List.mem_singleton.1 hy];exact ht a z rfl
 ·cases t with
  | ld a=>exact h
  | ep d=>intro y hy;exact h y (by simpa [Sc.tch,Sc.flush,upd_other _ _ _ _ hx] using hy)
  | kick d=>intro y hy;exact h y (by simpa [Sc.tch,Sc.flush,upd_other _ _ _ _ hx] using hy)
  | fence=>intro y hy;exact h y (by simpa [Sc.tch,Sc.flush,upd_other _ _ _ _ hx] using hy)
  | st a z=>intro y hy;exact h y (by simpa [Sc.tch,upd_other _ _ _ _ hx] using hy)
theorem applyAll_all {P:Nat→Prop} {l:List (Nat × Nat)} (h:∀y∈l,P y.2) {m:Nat→Nat} (hm:∀a,P (m a)):∀a,P (applyAll m l a):=by
 induction l generalizing m with
 | nil=>exact hm
 | cons x r ih=>
  refine ih (fun y hy=>h y (List.mem_cons_of_mem _ hy)) (m:=upd m x.1 x.2) (fun a=> ?_)
  unfold upd
  split
  ·exact h x (by simp)
  ·exact hm a
theorem drM_all {P:Nat→Prop} {l:List (Nat × Nat)} (h:∀y∈l,P y.2) {m:Nat→Nat} (hm:∀a,P (m a)):∀a,P (drM m l a):=by
 cases l with
 | nil=>exact hm
 | cons x r=>
  intro a
  show P (upd m x.1 x.2 a)
  unfold upd
  split
  ·exact h x (by simp)
  ·exact hm a
theorem tch_m {most c:Nat} {s:Sc} (t:Tch) (P:Nat→Prop) (hm:∀a,P (s.m a)) (hq:∀y∈s.q c,P y.2):∀a,P ((s.tch most c t).1.m a):=by
 cases t with
 | ld a=>exact hm
 | ep d=>exact applyAll_all hq hm
 | kick d=>exact applyAll_all hq hm
 | fence=>exact applyAll_all hq hm
 | st a z=>
  show ∀k,P (stM most s.m (s.q c) k)
  unfold stM
  split
  ·exact drM_all hq hm
  ·exact hm
end Go.Proofs.YtaaffebnajjfhaaGreatDoor.T
