/- Texts of this proof, merged: ChanT. -/
import Derived.Test.YtaaffebnajjfhaaGreatDoorH09
namespace Go.Proofs.YtaaffebnajjfhaaGreatDoor.T
set_option linter.unusedVariables false
set_option linter.unusedSimpArgs false
set_option linter.unusedSectionVars false
open Go.RowKit
inductive TStep (t:Tak) (w:Int):Tak→Bool→Int→Prop where
 | askNew:t.pc=1→w≠t.known→TStep t w { t with known:=w,pc:=2 } false 0
 | askBack:t.pc=1→w=t.known→t.linked=true→t.back=true→TStep t w { t with pc:=10 } false 0
 | askLook:t.pc=1→w=t.known→t.linked=true→t.back=false→TStep t w { t with pc:=6 } false 0
 | askLink:t.pc=1→w=t.known→t.linked=false→TStep t w { t with pc:=5 } false 0
 | settle:t.pc=4→TStep t w { t with linked:=false,head:=0,used:=0,pc:=0,load:= [],got:=0,tab:=t.tab.none_ } true 8
 | down:t.pc=5→w≠t.ep→TStep t w { t with pc:=0 } true 9
 | link:t.pc=5→w=t.ep→TStep t w { t with linked:=true,pc:=6 } false 0
 | noLook (x:Int):t.pc=6→t.waiting w=x→x≠0→(x=6∧(w-t.head)%65536=0∨x=10∧(w-t.head)%65536≠0∧(t.ring:Int)-t.held.length<(w-t.head)%65536)→TStep t w { t with answer:=x,pc:=14 } false 0
 | look:t.pc=6→(w-t.head)%65536≠0→TStep t w { t with answer:=0,pc:=7 } false 0
 | badSlot:t.pc=7→((t.ring:Int)≤w∨0≤idx t.held w)→TStep t w { t with answer:=10,pc:=14 } false 0
 | slot:t.pc=7→w<(t.ring:Int)→idx t.held w<0→TStep t w { t with d:=w.toNat,pc:=8 } false 0
 | badSize:t.pc=8→8<w→TStep t w { t with answer:=10,pc:=14 } false 0
 | size (p:Nat):t.pc=8→w≤8→(t.load.length<w.toNat∧p=9∨w.toNat≤t.load.length∧p=14)→TStep t w { t with many:=w.toNat,answer:=0,pc:=p } false 0
 | word (p:Nat):t.pc=9→(t.load.length+1<t.many∧p=9∨t.many≤t.load.length+1∧p=14)→TStep t w { t with load:=t.load ++ [w.toNat],answer:=0,pc:=p } false 0
 | flush:t.pc=13→TStep t w { t with answer:=0,pc:=14 } false 0
 | reset:t.pc=14→w≠t.known→TStep t w { t with pc:=0,load:= [] } true 8
 | told:t.pc=14→w=t.known→t.answer≠0→TStep t w { t with pc:=0,load:= [] } true t.answer
 | freed:t.pc=14→w=t.known→t.answer=0→t.back=true→TStep t w { t with pc:=0,used:=(t.used+1)%65536 } true 0
 | came:t.pc=14→w=t.known→t.answer=0→t.back=false→TStep t w { t with pc:=0,head:=(t.head+1)%65536,got:=(Grants.giveR t.tab t.d).2.1,tab:=(Grants.giveR t.tab t.d).1 } true 0
 | next:(t.pc=2∨t.pc=3∨10≤t.pc∧t.pc≤12)→TStep t w { t with pc:=t.pc+1 } false 0
theorem tstep_of (t:Tak) (w:Int) {t':Tak} {d:Bool} {e:Int} {r:Tak × Bool × Int} (h:TStep t w t' d e) (hr:r=(t',d,e)):TStep t w r.1 r.2.1 r.2.2:=by subst hr;exact h
theorem tpc_cases {p:Nat} (h0:p≠0) (h:p≤14):p=1∨p=2∨p=3∨p=4∨p=5∨p=6∨p=7∨p=8∨p=9∨p=10∨p=11∨p=12∨p=13∨p=14:=by omega
theorem Tak.go_step (t:Tak) (w:Int) (h0:t.pc≠0) (h:t.pc≤14):TStep t w (t.go w).1 (t.go w).2.1 (t.go w).2.2:=by
 rcases tpc_cases h0 h with e|e|e|e|e|e|e|e|e|e|e|e|e|e
 ·by_cases h1:w=t.known
  ·by_cases hl:t.linked=true
   ·by_cases hb:t.back=true
    ·exact tstep_of t w (.askBack e h1 hl hb) (by simp [Tak.go,e,Tak.asked,h1,hl,hb])
    ·exact tstep_of t w (.askLook e h1 hl (by simpa using hb)) (by simp [Tak.go,e,Tak.asked,h1,hl,hb])
   ·exact tstep_of t w (.askLink e h1 (by simpa using hl)) (by simp [Tak.go,e,Tak.asked,h1,hl])
  ·exact tstep_of t w (.askNew e h1) (by simp [Tak.go,e,Tak.asked,h1])
 ·exact tstep_of t w (.next (by omega)) (by simp [Tak.go,e])
 ·exact tstep_of t w (.next (by omega)) (by simp [Tak.go,e])
 ·exact tstep_of t w (.settle e) (by simp [Tak.go,e,Tak.first])
 ·by_cases h1:w=t.ep
  ·exact tstep_of t w (.link e h1) (by simp [Tak.go,e,h1])
  ·exact tstep_of t w (.down e h1) (by simp [Tak.go,e,h1])
 ·by_cases h1:t.waiting w=0
  ·refine tstep_of t w (.look e ?_) (by simp [Tak.go,e,h1])
   intro h2
   unfold Tak.waiting at h1
   rw [if_pos h2] at h1
   omega
  ·refine tstep_of t w (.noLook _ e rfl h1 ?_) (by simp [Tak.go,e,h1])
   unfold Tak.waiting at h1 ⊢
   split
   ·exact .inl ⟨rfl,by assumption⟩
   ·split
    ·exact .inr ⟨rfl,by assumption,by assumption⟩
    ·rename_i q1 q2
     rw [if_neg q1,if_neg q2] at h1
     exact absurd rfl h1
 ·by_cases h1:(t.ring:Int)≤w∨0≤idx t.held w
  ·exact tstep_of t w (.badSlot e h1) (by simp [Tak.go,e,h1,Tak.corrupt])
  ·exact tstep_of t w (.slot e (by omega) (by omega)) (by simp only [Tak.go,e];simp [h1])
 ·by_cases h1:8<w
  ·exact tstep_of t w (.badSize e h1) (by simp [Tak.go,e,h1,Tak.corrupt])
  ·by_cases h2:t.load.length<w.toNat
   ·exact tstep_of t w (.size 9 e (by omega) (.inl ⟨h2,rfl⟩)) (by simp [Tak.go,e,h1,Tak.words,h2])
   ·exact tstep_of t w (.size 14 e (by omega) (.inr ⟨by omega,rfl⟩)) (by simp [Tak.go,e,h1,Tak.words,h2])
 ·by_cases h2:t.load.length+1<t.many
  ·exact tstep_of t w (.word 9 e (.inl ⟨h2,rfl⟩)) (by simp [Tak.go,e,Tak.words,h2])
  ·exact tstep_of t w (.word 14 e (.inr ⟨by omega,rfl⟩)) (by simp [Tak.go,e,Tak.words,h2])
 ·exact tstep_of t w (.next (by omega)) (by simp [Tak.go,e])
 ·exact tstep_of t w (.next (by omega)) (by simp [Tak.go,e])
 ·exact tstep_of t w (.next (by omega)) (by simp [Tak.go,e])
 ·exact tstep_of t w (.flush e) (by simp [Tak.go,e])
 ·by_cases h1:w=t.known
  ·by_cases h2:t.answer=0
   ·by_cases hb:t.back=true
    ·exact tstep_of t w (.freed e h1 h2 hb) (by simp [Tak.go,e,Tak.over,h1,h2,hb])
    ·exact tstep_of t w (.came e h1 h2 (by simpa using hb)) (by simp [Tak.go,e,Tak.over,h1,h2,hb])
   ·exact tstep_of t w (.told e h1 h2) (by simp [Tak.go,e,Tak.over,h1,h2])
  ·exact tstep_of t w (.reset e h1) (by simp [Tak.go,e,Tak.over,h1])
theorem give_n (k:Grants.Tb) (i:Int):(Grants.giveR k i).1.n=k.n∧(Grants.giveR k i).1.held.length=k.held.length:=by
 unfold Grants.giveR;split<;>simp [Grants.Tb.gen,Grants.Tb.hold]
theorem none_held (k:Grants.Tb) (j:Nat):k.none_.held.getD j false=false:=by
 simp only [Grants.Tb.none_,List.getD_eq_getElem?_getD,List.getElem?_replicate]
 split<;>rfl
theorem TWf.go {a b R:Nat} {t t':Tak} {w e:Int} {d:Bool} (h:TWf a b R t) (hs:TStep t w t' d e) (hw:t.pc=1→0≤w∧w≤a):TWf a b R t':=by
 obtain ⟨ring,tabn,tabl,own,kn,kn0,pcm,wf5,wf6,wfF,emp,nb,yb,ans⟩:=h
 have hg:=give_n t.tab t.d
 cases hs with
 | settle p=>
  have hn:=none_held t.tab
  constructor<;>grind [Grants.Tb.none_]
 | _=>constructor<;>grind
end Go.Proofs.YtaaffebnajjfhaaGreatDoor.T
