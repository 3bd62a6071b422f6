/- Texts of this proof, merged: OkGo. -/
import Derived.Test.YtaaffebnajjfhaaGreatDoorH21
import Derived.Test.YtaaffebnajjfhaaGreatDoorH22
namespace Go.Proofs.YtaaffebnajjfhaaGreatDoor.T
set_option linter.unusedVariables false
set_option linter.unusedSimpArgs false
set_option linter.unusedSectionVars false
open Go.RowKit
section
variable {g g':Giv} {t t':Tak} {w e:Int} {d:Bool} {n W:Nat}
theorem Giv.Ok.go (ok:g.Ok n W) (hs:GStep g w g' d e) (h0:0≤w) (h1:w<65536):g'.Ok n W:=by
 obtain ⟨r1,r64,room,word,peer,own,known,free,out,many,next,tail,pc,left,leftp,hd,i,word8,len,load⟩:=ok
 cases hs with
 | back7 k p q r=>
  obtain ⟨hk,hp,_⟩:=List.findIdx?_eq_some_iff_getElem.1 q
  have hwk:w.toNat=g.out[k]:=by
   have:(g.out[k]:Int)=w:=by simpa using hp
   omega
  have hmem:w.toNat<g.ring:=by rw [hwk];exact out _ (List.getElem_mem hk)
  have hle:=List.length_eraseIdx_of_lt hk
  refine ⟨r1,r64,room,word,peer,own,known,fun x hx=> ?_,fun x hx=>out x (List.mem_of_mem_eraseIdx hx), ?_,next,by simp only;omega,by simp,by simp only;omega,fun _=>r,by simp,by simp,by simp,len,load⟩
  ·rcases List.mem_append.1 hx with hx|hx
   ·exact free x hx
   ·rw [List.mem_singleton.1 hx];exact hmem
  ·simp only [List.length_append,List.length_cons,List.length_nil]
   omega
 | room7 k dd r p' p q hl hf hp=>
  obtain ⟨hk,hp2,_⟩:=List.findIdx?_eq_some_iff_getElem.1 q
  have hwk:w.toNat=g.out[k]:=by
   have:(g.out[k]:Int)=w:=by simpa using hp2
   omega
  have hmem:w.toNat<g.ring:=by rw [hwk];exact out _ (List.getElem_mem hk)
  have hle:=List.length_eraseIdx_of_lt hk
  have hfr:∀x∈dd :: r,x<g.ring:=by
   intro x hx
   rw [←hf] at hx
   rcases List.mem_append.1 hx with hx|hx
   ·exact free x hx
   ·rw [List.mem_singleton.1 hx];exact hmem
  have hlen:=congrArg List.length hf
  simp only [List.length_append,List.length_cons,List.length_nil] at hlen
  refine ⟨r1,r64,room,word,peer,own,known,fun x hx=>hfr x (List.mem_cons_of_mem _ hx),fun x hx=> ?_, ?_,next,by simp only;omega,by simp only;omega,by simp only;omega,fun h=>by simp only at h;omega,fun _ _=>hfr dd (by simp),by simp,fun h=>by simp only at h ⊢;omega,len,load⟩
  ·rcases List.mem_append.1 hx with hx|hx
   ·exact out x (List.mem_of_mem_eraseIdx hx)
   ·rw [List.mem_singleton.1 hx];exact hfr dd (by simp)
  ·simp only [List.length_append,List.length_cons,List.length_nil]
   omega
 | room6 dd r p' p q hf hp=>
  have hfr:=free
  rw [hf] at hfr
  have hlen:=congrArg List.length hf
  simp only [List.length_cons] at hlen
  refine ⟨r1,r64,room,word,peer,own,known,fun x hx=>hfr x (List.mem_cons_of_mem _ hx),fun x hx=> ?_, ?_,next,tail,by simp only;omega,by simp,fun h=>by simp only at h;omega,fun _ _=>hfr dd (by simp),by simp,fun h=>by simp only at h ⊢;omega,len,load⟩
  ·rcases List.mem_append.1 hx with hx|hx
   ·exact out x hx
   ·rw [List.mem_singleton.1 hx];exact hfr dd (by simp)
  ·simp only [List.length_append,List.length_cons,List.length_nil]
   omega
 | settle p=>
  refine ⟨r1,r64,room,word,peer,own,known,fun x hx=>by simpa using hx,by simp,by simp,by simp,by simp,by simp,left,by simp,by simp,i,by simp,len,load⟩
 | _=>constructor<;>grind
theorem Giv.Ok.begin (ok:g.Ok n W) (xs:List Int) (h8:xs.length≤8) (hw:wordsOk xs=true):({ g with load:=xs.map Int.toNat,pc:=1 }:Giv).Ok n W:=by
 obtain ⟨r1,r64,room,word,peer,own,known,free,out,many,next,tail,pc,left,leftp,hd,i,word8,len,load⟩:=ok
 refine ⟨r1,r64,room,word,peer,own,known,free,out,many,next,tail,by simp,left,by simp,by simp,i,by simp,by simp;exact h8,fun x hx=> ?_⟩
 obtain ⟨y,hy,rfl⟩:=List.mem_map.1 hx
 unfold wordsOk at hw
 rw [List.all_eq_true] at hw
 have:=hw y hy
 simp only [beq_iff_eq] at this
 omega
theorem give_ok {k:Grants.Tb} (ok:k.Ok) (i:Int):(Grants.giveR k i).1.Ok:=by
 unfold Grants.giveR
 split
 ·exact (ok.gen _ _ (by omega) (by omega)).hold _ _
 ·exact ok
theorem Tak.Ok.go (ok:t.Ok n W) (hs:TStep t w t' d e) (h0:0≤w) (h1:w<65536):t'.Ok n W:=by
 obtain ⟨r1,r64,room,word,peer,own,known,head,used,pc,d8,dback,pc10,many,word9,load0,len,load,tab,tabn⟩:=ok
 cases hs with
 | settle p=>
  exact ⟨r1,r64,room,word,peer,own,known,by simp,by simp,by simp,by simp,dback,by simp,many,by simp,by simp,by simp,by simp,tab.none_,tabn⟩
 | came p q r s=>
  exact ⟨r1,r64,room,word,peer,own,known,by simp only;omega,used,by simp,by simp,dback,by simp,many,by simp,by simp,len,load,give_ok tab _,by rw [(give_n _ _).1];exact tabn⟩
 | word p' p q=>
  have:=word9 p
  refine ⟨r1,r64,room,word,peer,own,known,head,used,by simp only;omega,fun _ _=>d8 (by omega) (by omega),dback,fun h=>by simp only at h;omega,many,fun h=> ?_,fun _ h=>by simp only at h;omega, ?_,fun x hx=> ?_,tab,tabn⟩
  ·simp only at h;simp;omega
  ·simp;omega
  ·rcases List.mem_append.1 hx with hx|hx
   ·exact load x hx
   ·rw [List.mem_singleton.1 hx];omega
 | size p' p q r=>
  have:=load0 (by omega) (by omega)
  exact ⟨r1,r64,room,word,peer,own,known,head,used,by simp only;omega,fun _ _=>d8 (by omega) (by omega),dback,fun h=>by simp only at h;omega,by simp only;omega,fun h=>by simp only at h ⊢;omega,fun _ h=>by simp only at h;omega,len,load,tab,tabn⟩
 | _=>constructor<;>grind
theorem Tak.Ok.recv (ok:t.Ok n W):(t.begin_ false).Ok n W:=by
 obtain ⟨r1,r64,room,word,peer,own,known,head,used,pc,d8,dback,pc10,many,word9,load0,len,load,tab,tabn⟩:=ok
 exact ⟨r1,r64,room,word,peer,own,known,head,used,by simp [Tak.begin_],by simp [Tak.begin_],by simp [Tak.begin_],by simp [Tak.begin_],many,by simp [Tak.begin_],by simp [Tak.begin_],by simp [Tak.begin_],by simp [Tak.begin_],tab,tabn⟩
theorem Tak.Ok.release (ok:t.Ok n W) (x:Int) (hg:Grants.good t.tab x):({ ({ t with tab:=t.tab.hold (x%64).toNat false }:Tak).begin_ true with d:=(x%64).toNat }:Tak).Ok n W:=by
 obtain ⟨r1,r64,room,word,peer,own,known,head,used,pc,d8,dback,pc10,many,word9,load0,len,load,tab,tabn⟩:=ok
 have:=hg.1
 exact ⟨r1,r64,room,word,peer,own,known,head,used,by simp [Tak.begin_],by simp [Tak.begin_],fun _=>by show (x%64).toNat<t.ring;omega,by simp [Tak.begin_],many,by simp [Tak.begin_],by simp [Tak.begin_],by simp [Tak.begin_],by simp [Tak.begin_],tab.hold _ _,tabn⟩
end
theorem newGiv_ok {n ring c p own W:Nat} (h1:1≤ring) (h2:ring≤64) (hp:p<n) (ho:own<65536) (hW:chanBase n ring c p+4+11*ring≤W) (hW2:W≤65536):(newGiv n ring c p own).Ok n W:=by
 refine ⟨h1,h2,hW,hW2,hp,ho, ?_,fun x hx=>by simpa [newGiv] using hx,by simp [newGiv],by simp [newGiv],by simp [newGiv],by simp [newGiv],by simp [newGiv],by simp [newGiv],by simp [newGiv],by simp [newGiv],by simp [newGiv],by simp [newGiv],by simp [newGiv],by simp [newGiv]⟩
 simp only [newGiv];split<;>omega
theorem newTak_ok {n ring c p own W:Nat} (h1:1≤ring) (h2:ring≤64) (hp:p<n) (ho:own<65536) (hW:chanBase n ring p c+4+11*ring≤W) (hW2:W≤65536):(newTak n ring c p own).Ok n W:=by
 refine ⟨h1,h2,hW,hW2,hp,ho, ?_,by simp [newTak],by simp [newTak],by simp [newTak],by simp [newTak],by simp [newTak],by simp [newTak],by simp [newTak],by simp [newTak],by simp [newTak],by simp [newTak],by simp [newTak],Grants.newTb_ok ⟨by omega,by omega⟩,rfl⟩
 simp only [newTak];split<;>omega
def chanWords (n ring:Nat):Nat:=n*(n-1)*(4+11*ring)
theorem chanBase_le {n ring i j:Nat} (hi:i<n) (hj:j<n) (hij:i≠j):chanBase n ring i j+4+11*ring≤chanWords n ring:=by
 obtain ⟨k,rfl⟩:∃k,n=k+1:=⟨n-1,by omega⟩
 unfold chanBase chanWords
 simp only [Nat.add_sub_cancel]
 have h1:(if i<j then j-1 else j)<k:=by split<;>omega
 have h2:i*k+(if i<j then j-1 else j)+1≤(k+1)*k:=by
  have:=Nat.mul_le_mul_right k (show i+1≤k+1 by omega)
  rw [Nat.succ_mul] at this
  omega
 have:=Nat.mul_le_mul_right (4+11*ring) h2
 rw [Nat.succ_mul] at this
 omega
theorem newGiv_new (n ring c p own:Nat):(newGiv n ring c p own).New own ring:=⟨rfl,rfl,rfl,rfl,rfl,rfl,rfl,rfl,rfl⟩
theorem newTak_new (n ring c p own:Nat):(newTak n ring c p own).New own ring:=by
 refine ⟨rfl,rfl,rfl,rfl,rfl,by simp [newTak,Grants.newTb],fun j=> ?_,rfl,rfl,rfl⟩
 simp only [newTak,Grants.newTb,List.getD_eq_getElem?_getD,List.getElem?_replicate]
 split<;>rfl
end Go.Proofs.YtaaffebnajjfhaaGreatDoor.T
