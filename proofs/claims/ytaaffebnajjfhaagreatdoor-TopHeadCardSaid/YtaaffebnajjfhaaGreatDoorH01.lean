/- Texts of this proof, merged: Mem. -/
import Derived.Test.YtaaffebnajjfhaaGreatDoorProg
import Derived.WalkKit
import Derived.Below
import Derived.OwnWalk
import Derived.ArgAppend
import Derived.Maps.AppendAt
import Derived.Laws.IdiomCopy
import Derived.Laws.Rows
import Derived.Lib.Hide
import Derived.Deep.Draws
import Derived.KernelRfl
namespace Go.Proofs.YtaaffebnajjfhaaGreatDoor.T
set_option linter.unusedVariables false
set_option linter.unusedSimpArgs false
set_option linter.unusedSectionVars false
open Go.RowKit
structure Keep (F:Nat→Prop) (w w':World):Prop where
 os:w'.os=w.os
 tape:w'.tape=w.tape
 output:w'.output=w.output
 size:w.heap.size≤w'.heap.size
 block:∀k,k<w.heap.size→ ¬F k→w'.heap[k]? = w.heap[k]?
namespace Keep
variable {F G:Nat→Prop} {a b c:World}
theorem refl (F:Nat→Prop) (w:World):Keep F w w:=⟨rfl,rfl,rfl,Nat.le_refl _,fun _ _ _=>rfl⟩
theorem mono (h:Keep F a b) (hF:∀k,k<a.heap.size→F k→G k):Keep G a b:=⟨h.os,h.tape,h.output,h.size,fun k hk hn=>h.block k hk (fun q=>hn (hF k hk q))⟩
theorem trans (h:Keep F a b) (g:Keep G b c) (hG:∀k,k<a.heap.size→G k→F k):Keep F a c:=
 ⟨g.os.trans h.os,g.tape.trans h.tape,g.output.trans h.output,Nat.le_trans h.size g.size,fun k hk hn=>(g.block k (Nat.lt_of_lt_of_le hk h.size) (fun q=>hn (hG k hk q))).trans (h.block k hk hn)⟩
theorem trans' (h:Keep F a b) (g:Keep F b c):Keep F a c:=h.trans g (fun _ _ q=>q)
theorem drew (h:Keep F a b):Keep F a b.drew:=⟨h.os,h.tape,h.output,h.size,h.block⟩
theorem drewN (h:Keep F a b) (n:Nat):Keep F a (b.drewN n):=⟨h.os,h.tape,h.output,h.size,h.block⟩
theorem alloc (h:Keep F a b) (o:Obj):Keep F a (b.alloc o):=
 h.trans' ⟨rfl,rfl,rfl,by simp,fun k hk _=>Below.heap_alloc _ _ _ hk⟩
theorem setCell (h:Keep F a b) {p:Addr} (hp:p.block<a.heap.size→F p.block) (u:Value):Keep F a (b.setCell p u):=
 h.trans (G:=fun k=>k=p.block) ⟨rfl,rfl,rfl,by simp [World.setCell],fun k hk hn=>Below.heap_setCell _ _ _ _ hn⟩ (fun k hk e=>by subst e;exact hp hk)
theorem below {B:Nat} (h:Below B a b):Keep (fun k=>B≤k) a b:=⟨h.os,h.tape,h.output,h.size,fun k _ hn=>h.block k (by omega)⟩
theorem toBelow {B:Nat} (h:Keep (fun k=>B≤k) a b) (hB:B≤a.heap.size):Below B a b:=⟨h.os,h.tape,h.output,h.size,fun k hk=>h.block k (by omega) (by omega)⟩
theorem ofFresh {B:Nat} (h:Below a.heap.size a b):Keep F a b:=⟨h.os,h.tape,h.output,h.size,fun k hk _=>h.block k hk⟩
theorem fresh (h:Keep (fun _=>False) a b):Below a.heap.size a b:=⟨h.os,h.tape,h.output,h.size,fun k hk=>h.block k hk (fun q=>q)⟩
theorem grown {row:Option Nat} (h:a.grownBy b row):Keep (fun k=>row=some k) a b:=⟨h.os,h.tape,h.output,h.size,fun k hk hn=>h.block k hk (fun e=>hn e.symm)⟩
theorem cell (h:Keep F a b) {p:Addr} (hp:p.block<a.heap.size) (hn: ¬F p.block):b.cell? p=a.cell? p:=World.cell?_of_block (w:=a) (h.block p.block hp hn)
end Keep
def Blk (w:World) (b:Nat) (ty:TypeId) (cs:List Value):Prop:=w.heap[b]? = some (.cells cs.toArray ty (0,0))
namespace Blk
variable {w w':World} {b b':Nat} {ty ty':TypeId} {cs cs':List Value}
theorem lt (h:Blk w b ty cs):b<w.heap.size:=(Array.getElem?_eq_some_iff.1 h).1
theorem cell (h:Blk w b ty cs) (j:Nat):w.cell? ⟨b,j,none⟩=cs[j]? := by
 unfold Blk at h
 simp [World.cell?,h]
theorem free (h:Blk w b ty cs) (j:Nat):w.frozen? ⟨b,j,none⟩=false:=by
 unfold Blk at h
 simp [World.frozen?,h]
theorem set (h:Blk w b ty cs) (j:Nat) (v:Value):Blk (w.setCell ⟨b,j,none⟩ v) b ty (cs.set j v):=by
 unfold Blk at *
 simp [World.setCell,Array.getElem?_modify,h]
theorem far (h:Blk w b ty cs) {p:Addr} (hp:b≠p.block) (v:Value):Blk (w.setCell p v) b ty cs:=(Below.heap_setCell w p v b hp).trans h
theorem ne (h:Blk w b ty cs) (h':Blk w b' ty' cs') (ht:ty≠ty'):b≠b':=by
 rintro rfl
 unfold Blk at *
 rw [h] at h'
 injection h' with h'
 injection h' with _ h'
 exact ht h'
theorem keep {F:Nat→Prop} (h:Blk w b ty cs) (hk:Keep F w w') (hF: ¬F b):Blk w' b ty cs:=(hk.block b h.lt hF).trans h
theorem below {B:Nat} (h:Blk w b ty cs) (hk:Below B w w') (hb:b<B):Blk w' b ty cs:=(hk.block b hb).trans h
theorem drew (h:Blk w b ty cs):Blk w.drew b ty cs:=h
theorem alloc (h:Blk w b ty cs) (o:Obj):Blk (w.alloc o) b ty cs:=(Below.heap_alloc w o b h.lt).trans h
theorem new (w:World) (ty:TypeId) (cs:List Value):Blk (w.alloc (.cells cs.toArray ty)) w.heap.size ty cs:=heap_alloc_new w _
theorem same (h:Blk w b ty cs) (h':Blk w b ty' cs'):ty=ty'∧cs=cs':=by
 unfold Blk at *
 rw [h] at h'
 injection h' with h'
 injection h' with h1 h2 h3
 exact ⟨h2,by have:=congrArg Array.toList h1;simpa using this⟩
end Blk
theorem setCells_far {g:Nat}:∀(vs:List Value) (o:Nat) {w:World} (k:Nat),k≠g→(w.setCells g o vs).heap[k]? = w.heap[k]?
 | [],_,_,_,_=>rfl
 | v :: r,o,w,k,hk=>by
  rw [World.setCells,setCells_far r (o+1) k hk]
  exact Below.heap_setCell w ⟨g,o,none⟩ v k hk
theorem setCells_same (g:Nat):∀(vs:List Value) (o:Nat) (w:World),(w.setCells g o vs).os=w.os∧(w.setCells g o vs).tape=w.tape∧(w.setCells g o vs).output=w.output∧(w.setCells g o vs).heap.size=w.heap.size
 | [],_,_=>⟨rfl,rfl,rfl,rfl⟩
 | v :: r,o,w=>by
  obtain ⟨h1,h2,h3,h4⟩:=setCells_same g r (o+1) (w.setCell ⟨g,o,none⟩ v)
  rw [World.setCells]
  exact ⟨h1,h2,h3,by rw [h4];simp [World.setCell]⟩
theorem setCells_blk {g:Nat} {e:TypeId}:∀(vs:List Value) (o:Nat) (w:World) (cs:List Value),Blk w g e cs→o+vs.length≤cs.length→
  Blk (w.setCells g o vs) g e (cs.take o++vs++cs.drop (o+vs.length))
 | [],o,w,cs,h,_=>by simpa [World.setCells] using h
 | v :: r,o,w,cs,h,hl=>by
  simp only [List.length_cons] at hl
  have h2:=setCells_blk r (o+1) (w.setCell ⟨g,o,none⟩ v) (cs.set o v) (h.set o v) (by simp;omega)
  rw [World.setCells]
  have e:(cs.set o v).take (o+1)++r++(cs.set o v).drop (o+1+r.length)=cs.take o++v :: r++cs.drop (o+(v :: r).length):=by
   have ho:o<cs.length:=by omega
   rw [List.drop_set_of_lt (by omega),List.take_set,List.take_succ_eq_append_getElem ho,List.set_append_right _ _ (by rw [List.length_take];omega)]
   simp only [List.length_cons]
   rw [show o+1+r.length=o+(r.length+1) by omega]
   simp [Nat.min_eq_left (Nat.le_of_lt ho)]
  rw [e] at h2
  exact h2
theorem add_lit (g o j:Nat):(⟨g,o,none⟩:Addr).add j=⟨g,o+j,none⟩:=by unfold Addr.add;split<;>simp_all
def Row (w:World) (e:TypeId) (size:Nat) (v:Value) (n:Nat) (xs:List Value):Prop:=
 xs.length=n*size∧
 ((v= .slice none 0 0∧n=0)∨∃g off cap cur,v= .slice (some ⟨g,off,none⟩) n cap∧Blk w g e cur∧n≤cap∧cap≤maxLen∧off+cap*size≤cur.length∧(cur.drop off).take (n*size)=xs)
namespace Row
variable {w w':World} {e:TypeId} {size n:Nat} {v:Value} {xs:List Value}
theorem nil (w:World) (e:TypeId) (size:Nat):Row w e size (.slice none 0 0) 0 []:=⟨by simp, .inl ⟨rfl,rfl⟩⟩
theorem move (h:Row w e size v n xs) (hm:∀k,v.ownBlock=some k→w'.heap[k]? = w.heap[k]?):Row w' e size v n xs:=by
 refine ⟨h.1, ?_⟩
 rcases h.2 with h2|⟨g,off,cap,cur,rfl,hg,r⟩
 ·exact .inl h2
 ·exact .inr ⟨g,off,cap,cur,rfl,(hm g (by simp [Value.ownBlock])).trans hg,r⟩
theorem lt (h:Row w e size v n xs) (k:Nat) (hk:v.ownBlock=some k):k<w.heap.size:=by
 rcases h.2 with ⟨rfl,_⟩|⟨g,off,cap,cur,rfl,hg,r⟩
 ·simp [Value.ownBlock] at hk
 ·have:g=k:=by simpa [Value.ownBlock] using hk
  subst this
  exact hg.lt
theorem keep {F:Nat→Prop} (h:Row w e size v n xs) (hk:Keep F w w') (hF:∀k,v.ownBlock=some k→ ¬F k):Row w' e size v n xs:=
 h.move fun k q=>hk.block k (h.lt k q) (hF k q)
theorem below (h:Row w e size v n xs) (hk:Below w.heap.size w w'):Row w' e size v n xs:=h.move fun k q=>hk.block k (h.lt k q)
theorem typed (h:Row w e size v n xs) (k:Nat) (hk:v.ownBlock=some k):∃cur,Blk w k e cur:=by
 rcases h.2 with ⟨rfl,_⟩|⟨g,off,cap,cur,rfl,hg,r⟩
 ·simp [Value.ownBlock] at hk
 ·have:g=k:=by simpa [Value.ownBlock] using hk
  subst this
  exact ⟨cur,hg⟩
theorem ne (h:Row w e size v n xs) {b:Nat} {ty:TypeId} {cs:List Value} (hb:Blk w b ty cs) (ht:e≠ty):v.ownBlock≠some b:=fun q=>by
 obtain ⟨cur,hc⟩:=h.typed b q
 exact ht (hc.same hb).1
theorem far (h:Row w e size v n xs) {b:Nat} {ty:TypeId} {cs:List Value} (hb:Blk w b ty cs) (ht:e≠ty) (j:Nat) (u:Value):Row (w.setCell ⟨b,j,none⟩ u) e size v n xs:=
 h.move fun k hk=>Below.heap_setCell _ _ _ _ (fun q=>h.ne hb ht (by rw [hk,q]))
theorem slice (h:Row w e size v n xs):∃A c,v= .slice A n c∧n≤c∧c≤maxLen:=by
 rcases h.2 with ⟨rfl,rfl⟩|⟨g,off,cap,cur,rfl,hg,hn,hm,r⟩
 ·exact ⟨none,0,rfl,Nat.le_refl _,by unfold maxLen;omega⟩
 ·exact ⟨_,cap,rfl,hn,hm⟩
theorem cells (h:Row w e size v n xs) (hn:0<n):∃g off c,v= .slice (some ⟨g,off,none⟩) n c∧n≤c∧c≤maxLen∧∀j,j<n*size→w.cell? ⟨g,off+j,none⟩=xs[j]? ∧ w.frozen? ⟨g,off+j,none⟩=false:=by
 rcases h.2 with ⟨rfl,rfl⟩|⟨g,off,cap,cur,rfl,hg,hc,hm,hl,ht⟩
 ·omega
 ·refine ⟨g,off,cap,rfl,hc,hm,fun j hj=>⟨?_,hg.free _⟩⟩
  rw [hg.cell, ←ht,List.getElem?_take,if_pos hj,List.getElem?_drop]
theorem take {A:Option Addr} {c m:Nat} (h:Row w e size (.slice A n c) n xs) (hm:m≤n):Row w e size (.slice A m c) m (xs.take (m*size)):=by
 have hle:=Nat.mul_le_mul_right size hm
 refine ⟨by rw [List.length_take,h.1];exact Nat.min_eq_left hle, ?_⟩
 rcases h.2 with ⟨he,rfl⟩|⟨g,off,cap,cur,he,hg,hc,hx,hl,ht⟩
 ·injection he with h1 h2 h3
  subst h1 h3
  exact .inl ⟨by rw [show m=0 by omega],by omega⟩
 ·injection he with h1 h2 h3
  subst h1 h3
  refine .inr ⟨g,off,c,cur,rfl,hg,by omega,hx,hl, ?_⟩
  rw [←ht,List.take_take,Nat.min_eq_left hle]
theorem drop {g off c k c':Nat} (h:Row w e size (.slice (some ⟨g,off,none⟩) n c) n xs) (hk:k≤n) (hc':n-k≤c') (hcc:k+c'≤c):Row w e size (.slice (some ⟨g,off+k*size,none⟩) (n-k) c') (n-k) (xs.drop (k*size)):=by
 refine ⟨by rw [List.length_drop,h.1,Nat.sub_mul], ?_⟩
 rcases h.2 with ⟨he,_⟩|⟨g',off',cap,cur,he,hg,hc,hx,hl,ht⟩
 ·cases he
 ·injection he with h1 h2 h3
  injection h1 with h1
  injection h1 with h1 h4
  subst h1 h3 h4
  have hmul:=Nat.mul_le_mul_right size hcc
  rw [Nat.add_mul] at hmul
  refine .inr ⟨g,off+k*size,c',cur,rfl,hg,hc',by omega,by omega, ?_⟩
  rw [←ht,List.drop_take,List.drop_drop,Nat.sub_mul]
theorem cut {g off c c':Nat} (h:Row w e size (.slice (some ⟨g,off,none⟩) n c) n xs) (h1:n≤c') (h2:c'≤c):Row w e size (.slice (some ⟨g,off,none⟩) n c') n xs:=by
 have:=h.drop (k:=0) (Nat.zero_le _) (by omega) (c':=c') (by omega)
 simpa using this
theorem empty {g off c:Nat} {cur:List Value} (h:Blk w g e cur) (hc:off+c*size≤cur.length) (hm:c≤maxLen):Row w e size (.slice (some ⟨g,off,none⟩) 0 c) 0 []:=
 ⟨by simp, .inr ⟨g,off,c,cur,rfl,h,Nat.zero_le _,hm,hc,by simp⟩⟩
theorem whole {g:Nat} (h:Blk w g e xs) (hx:xs.length=n*size) (hn:n≤maxLen):Row w e size (.slice (some ⟨g,0,none⟩) n n) n xs:=
 ⟨hx, .inr ⟨g,0,n,xs,rfl,h,Nat.le_refl _,hn,by rw [hx];omega,by rw [List.drop_zero, ←hx,List.take_length]⟩⟩
theorem set {g off c:Nat} (h:Row w e size (.slice (some ⟨g,off,none⟩) n c) n xs) (j:Nat) (hj:j<n*size) (u:Value):Row (w.setCell ⟨g,off+j,none⟩ u) e size (.slice (some ⟨g,off,none⟩) n c) n (xs.set j u):=by
 refine ⟨by rw [List.length_set,h.1], ?_⟩
 rcases h.2 with ⟨he,_⟩|⟨g',off',cap,cur,he,hg,hc,hx,hl,ht⟩
 ·cases he
 ·injection he with h1 h2 h3
  injection h1 with h1
  injection h1 with h1 h4
  subst h1 h3 h4
  refine .inr ⟨g,off,c,_,rfl,hg.set _ u,hc,hx,by rw [List.length_set];exact hl, ?_⟩
  rw [←ht,List.drop_set,if_neg (by omega),List.take_set,show off+j-off=j by omega]
theorem append {P:Program} (w:World) (t ty e:TypeId) (i:TypeInfo) (z:Value) (size bytes:Nat) (ht:P.underlying t=some (.slice e)) (hi:P.info? e=some i) (hz:i.zero=some z)
  (hsize:i.size=size) (hby:i.bytes=bytes) (hzs:z.cells.size=size) (hsz:0<size) (v:Value) (n:Nat) (xs:List Value) (h:Row w e size v n xs)
  (a:Addr) (m c:Nat) (news:List Value) (hl:news.length=m*size) (hnews:∀j u,news[j]? = some u→w.cell? (a.add j)=some u) (h1:∀u∈news,u.oneCell'=true)
  (h63:n+m≤maxLen) (hbytes:(n+m)*bytes≤140737488355328):
  ∃v' w',(Builtin.append_ #[t,t] ty #[v, .slice (some a) m c]).run P w= .ok v' w'∧Row w' e size v' (n+m) (xs++news)∧w.grownBy w' v.ownBlock∧(v'.ownBlock=v.ownBlock∨∃b,v'.ownBlock=some b∧w.heap.size≤b):=by
 have ofOwn:∀ {w1:World} {v1:Value} {ys:List Value},w1.ownsRow w.heap.size e size v1 (n+m) ys→Row w1 e size v1 (n+m) ys:=by
  intro w1 v1 ys ho
  refine ⟨ho.1, ?_⟩
  rcases ho.2 with ⟨rfl,h0⟩|⟨g,cap,cur,rfl,hb,hh,hnc,hcm,hcs,htk⟩
  ·exact .inl ⟨rfl,h0⟩
  ·exact .inr ⟨g,0,cap,cur.toList,rfl,hh,hnc,hcm,by rw [Array.length_toList,hcs];omega,by rw [List.drop_zero];exact htk⟩
 rcases h.2 with ⟨hv,h0⟩|⟨g,off,cap,cur,hv,hg,hnc,hcm,hcs,htake⟩
 ·subst h0
  have ho:w.ownsRow w.heap.size e size v 0 xs:=⟨h.1, .inl ⟨hv,rfl⟩⟩
  obtain ⟨v',w',hr,ho',hg,_,hat⟩:=run_append_own_at (P:=P) w w.heap.size t ty e i z size bytes ht hi hz hsize hby hzs hsz v 0 xs ho a m c news hl hnews h1 h63 hbytes (Nat.le_refl _)
  refine ⟨v',w',hr,ofOwn ho',hg, ?_⟩
  rcases hat with hat|hat
  ·exact .inl hat
  ·exact .inr ⟨_,hat,Nat.le_refl _⟩
 ·by_cases hroom:n+m≤cap
  ·have hfit:off+n*size+news.length≤cur.length:=by
    have:=Nat.mul_le_mul_right size hroom
    rw [Nat.add_mul] at this
    omega
   subst hsize
   have hr:=run_append_room_cells (P:=P) (w:=w) t ty e i ht hi g off n cap a m c news hl hnews h1 hroom
    (fun j hj=>by rw [hg.cell];simp;omega) (fun j _=>hg.free _)
   have h3:=setCells_blk news (off+n*i.size) w cur hg hfit
   obtain ⟨s1,s2,s3,s4⟩:=setCells_same g news (off+n*i.size) w
   refine ⟨_,_,by rw [hv];exact hr,⟨by rw [List.length_append,h.1,hl,Nat.add_mul], .inr ⟨g,off,cap,_,rfl,h3,hroom,hcm, ?_, ?_⟩⟩,
    ⟨s1,s2,s3,by rw [s4];exact Nat.le_refl _,fun k _ hk=>setCells_far news _ k (fun he=>hk (by rw [hv,he];simp [Value.ownBlock]))⟩, .inl (by rw [hv];rfl)⟩
   ·simp only [List.length_append,List.length_take,List.length_drop]
    omega
   ·rw [List.append_assoc,List.drop_append_of_le_length (by rw [List.length_take];omega),List.drop_take]
    rw [show off+n*i.size-off=n*i.size by omega,htake, ←List.append_assoc]
    exact List.take_left' (by rw [List.length_append,h.1,hl,Nat.add_mul])
  ·obtain ⟨v',w',hr,ho,hg'⟩:=run_append_arg_grows (P:=P) (w:=w) t ty e i z size bytes ht hi hz hsize hby hzs hsz ⟨g,off,none⟩ n cap xs h.1
    (fun j u hu=>by
     rw [add_lit,hg.cell]
     rw [←htake,List.getElem?_take] at hu
     split at hu
     ·rwa [List.getElem?_drop] at hu
     ·cases hu) a m c news hl hnews (by omega) h63 hbytes
   refine ⟨v',w',by rw [hv];exact hr,ofOwn ho,⟨hg'.os,hg'.tape,hg'.output,hg'.size,fun k hk _=>hg'.block k hk (by simp)⟩, ?_⟩
   rcases ho.2 with ⟨rfl,h0⟩|⟨g',cap',cur',rfl,hb,_⟩
   ·by_cases hv':v.ownBlock=none
    ·exact .inl (by rw [hv'];rfl)
    ·have:n+m≤cap:=by omega
     exact absurd this hroom
   ·exact .inr ⟨g',rfl,hb⟩
theorem sub {g off c l h m:Nat} (hr:Row w e size (.slice (some ⟨g,off,none⟩) n c) n xs) (h1:l≤h) (h2:h≤n) (h3:h≤m) (h4:m≤c):
  Row w e size (.slice (if m=l then some ⟨g,off,none⟩ else (some (⟨g,off,none⟩:Addr)).map (·.add (l*size))) (h-l) (m-l)) (h-l) ((xs.drop (l*size)).take ((h-l)*size)):=by
 have hd:=hr.drop (k:=l) (c':=c-l) (by omega) (by obtain ⟨_,_,he,hx,_⟩:=hr.slice;injection he with _ _ he;subst he;omega) (by omega)
 have ht:=hd.take (m:=h-l) (by omega)
 by_cases hml:m=l
 ·rw [if_pos hml]
  have hh:h=l:=by omega
  subst hml hh
  rcases hr.2 with ⟨he,_⟩|⟨g',off',cap,cur,he,hg,hc,hx,hl,htk⟩
  ·cases he
  ·injection he with e1 e2 e3
   injection e1 with e1
   injection e1 with e1 e4
   subst e1 e3 e4
   simp only [Nat.sub_self,Nat.zero_mul,List.take_zero]
   exact Row.empty hg (by omega) (by unfold maxLen;omega)
 ·rw [if_neg hml,Option.map_some,add_lit]
  exact ht.cut (by omega) (by omega)
theorem sub_block (g off m l n c:Nat) (size:Nat):(Value.slice (if m=l then some ⟨g,off,none⟩ else (some (⟨g,off,none⟩:Addr)).map (·.add (l*size))) n c).ownBlock=some g:=by
 split
 ·rfl
 ·rw [Option.map_some,add_lit];rfl
theorem run_slice3 {P:Program} (t e:TypeId) {i:TypeInfo} (ht:P.underlying t=some (.slice e)) (hi:P.info? e=some i) (A:Option Addr) (n c l h m:Nat) (h1:l≤h) (h2:h≤m) (h3:m≤c) (W:World):
  (Instr.slice t (.slice A n c) (some (.int .i64 l)) (some (.int .i64 h)) (some (.int .i64 m))).run P W= .ok (.slice (if m=l then A else A.map (·.add (l*i.size))) (h-l) (m-l)) W:=by
 have e1:(l:Int)≤(h:Int):=by omega
 have e2:(h:Int)≤(m:Int):=by omega
 have e3:(m:Int)≤(c:Int):=by omega
 simp [Instr.slice,run_underlying ht,Instr.sliceBounds,Instr.sliceBound,asIntOf,sizeOf,typeInfo,hi,h1,h2,h3]
theorem run_slice_hi {P:Program} (t e:TypeId) {i:TypeInfo} (ht:P.underlying t=some (.slice e)) (hi:P.info? e=some i) (A:Option Addr) (n c h:Nat) (h2:h≤c) (W:World):
  (Instr.slice t (.slice A n c) none (some (.int .i64 h)) none).run P W= .ok (.slice (if c=0 then A else A.map (·.add (0*i.size))) h c) W:=by
 simp [Instr.slice,run_underlying ht,Instr.sliceBounds,Instr.sliceBound,asIntOf,sizeOf,typeInfo,hi,h2]
theorem run_slice_lo {P:Program} (t e:TypeId) {i:TypeInfo} (ht:P.underlying t=some (.slice e)) (hi:P.info? e=some i) (A:Option Addr) (n c l:Nat) (h2:l≤n) (W:World):
  (Instr.slice t (.slice A n c) (some (.int .i64 l)) none none).run P W= .ok (.slice (if c=l then A else A.map (·.add (l*i.size))) (n-l) (c-l)) W:=by
 simp [Instr.slice,run_underlying ht,Instr.sliceBounds,Instr.sliceBound,asIntOf,sizeOf,typeInfo,hi,h2]
theorem append_none {P:Program} (w:World) (t ty e:TypeId) (i:TypeInfo) (ht:P.underlying t=some (.slice e)) (hi:P.info? e=some i) (v:Value) (n:Nat) (xs:List Value) (h:Row w e size v n xs) (c:Nat)  :
  (Builtin.append_ #[t,t] ty #[v, .slice none 0 c]).run P w= .ok v w:=by
 rcases h.2 with ⟨rfl,h0⟩|⟨g,off,cap,cur,rfl,hg,hnc,r⟩
 ·simp [Builtin.append_,run_underlying ht,sizeOf,typeInfo,hi,Builtin.lenOf,Builtin.firstCells]
 ·simp [Builtin.append_,run_underlying ht,sizeOf,typeInfo,hi,Builtin.lenOf,Builtin.firstCells,hnc,storeCells]
end Row
section
variable {P:Program} {ops:Array Oper} {rest:List Oper} {o:Oper} {a:Act} {Q':Exit→Act→World→Prop} {Kc:Act→World→Prop} {E:Prop}
theorem app_list {W:World} (hgd:o.guard=none) (s x:Operand) (t e:TypeId) (z:Value) (size bytes:Nat)
  (ho:o.op= .call { callee:= .builtin .append,args:= #[s,x],argTypes:= #[t,t] }) (ht:P.underlying t=some (.slice e))
  (hinfo:(P.info? e).map (fun i=>(i.zero,i.size,i.bytes))=some (some z,size,bytes)) (hzs:z.cells.size=size) (hsz:0<size)
  (v:Value) (n:Nat) (xs:List Value) (h:Row W e size v n xs) (ad:Addr) (m c:Nat) (news:List Value) (hs:a.eval s=v) (hx:a.eval x= .slice (some ad) m c)
  (hl:news.length=m*size) (hnews:∀j u,news[j]? = some u→W.cell? (ad.add j)=some u) (h1:∀u∈news,u.oneCell'=true) (h63:n+m≤maxLen) (hbytes:(n+m)*bytes≤140737488355328)
  (k:∀v1 w1,Row w1 e size v1 (n+m) (xs++news)→W.grownBy w1 v.ownBlock→(v1.ownBlock=v.ownBlock∨∃b,v1.ownBlock=some b∧W.heap.size≤b)→wpList P ops Q' rest (a.put o.dst v1) w1):
  wpList P ops Q' (o :: rest) a W:=by
 obtain ⟨i0,hi,hzz⟩:=Option.map_eq_some_iff.1 hinfo
 simp only [Prod.mk.injEq] at hzz
 obtain ⟨hz0,hz1,hz2⟩:=hzz
 obtain ⟨v1,w1,hr,g1,g2,g3⟩:=Row.append (P:=P) W t o.type e i0 z size bytes ht hi hz0 hz1 hz2 hzs hsz v n xs h ad m c news hl hnews h1 h63 hbytes
 refine wpList_plain hgd fun K hK=> ?_
 unfold Oper.wp execOp
 simp only [ho,resolve,invoke,builtin,Sem.run_bind,Sem.run_pure,Result.andThen_ok,List.map_toArray,List.map_cons,List.map_nil,hs,hx,hr]
 exact hK _ _ (k v1 w1 g1 g2 g3)
end
end Go.Proofs.YtaaffebnajjfhaaGreatDoor.T
