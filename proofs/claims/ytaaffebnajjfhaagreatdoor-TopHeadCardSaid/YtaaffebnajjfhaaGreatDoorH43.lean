/- Texts of this proof, merged: Same, Acts, Pfx1, Pfx2, RowK. -/
import Derived.Test.YtaaffebnajjfhaaGreatDoorH09
import Derived.Test.YtaaffebnajjfhaaGreatDoorH42
import Derived.Test.YtaaffebnajjfhaaGreatDoorRows
import Derived.WalkKit
import Derived.ProofKit
import Derived.OpenShut
import Derived.ChangeOld
import Derived.Below
import Derived.Lib.SmallJoins
import Derived.Deep.Slices
import Derived.Deep.Fields
import Derived.ChangeSame
import Derived.LaidLaws
import Derived.LaidHandle
import Derived.Stop.Joined
namespace Go.Proofs.YtaaffebnajjfhaaGreatDoor.T
set_option linter.unusedVariables false
set_option linter.unusedSimpArgs false
set_option linter.unusedSectionVars false
open Go.RowKit
structure Evl where
 ev:Ev
 lv:Value
 o:Int
 v:Int
def Evl.none_:Evl:=⟨⟨0,0,0,0, []⟩,nilS,0,0⟩
structure ActsAt (w:World) (v:Value) (l:List Evl):Prop where
 row:(l= []∧∃A c,v= .slice A 0 c)∨∃g off c,v= .slice (some ⟨g,off,none⟩) l.length c∧g<w.heap.size∧l.length≤c∧∀i,i<l.length→∀r,r<7→w.cell? ⟨g,off+i*7+r,none⟩=(evCells (l.getD i Evl.none_).ev (l.getD i Evl.none_).lv (l.getD i Evl.none_).o (l.getD i Evl.none_).v)[r]?
 load:∀i,i<l.length→ReadI w (l.getD i Evl.none_).lv (l.getD i Evl.none_).ev.load∧∀k,(l.getD i Evl.none_).lv.ownBlock=some k→0<(l.getD i Evl.none_).ev.load.length→k<w.heap.size
theorem ActsAt.keep {F:Nat→Prop} {w w':World} {v:Value} {l:List Evl} (h:ActsAt w v l) (hk:Keep F w w') (hF:∀k,k<w.heap.size→ ¬F k):ActsAt w' v l:=by
 refine ⟨?_,fun i hi=>⟨(h.load i hi).1.keep hk (fun k q z=>hF k ((h.load i hi).2 k q z)),fun k q z=>Nat.lt_of_lt_of_le ((h.load i hi).2 k q z) hk.size⟩⟩
 rcases h.row with h|⟨g,off,c,hv,hg,hc,hcell⟩
 ·exact .inl h
 ·exact .inr ⟨g,off,c,hv,Nat.lt_of_lt_of_le hg hk.size,hc,fun i hi r hr=>(hk.cell (p:=⟨g,off+i*7+r,none⟩) hg (hF g hg)).trans (hcell i hi r hr)⟩
theorem ActsAt.fresh {w w':World} {v:Value} {l:List Evl} (h:ActsAt w v l) (hb:Below w.heap.size w w'):ActsAt w' v l:=h.keep (Keep.ofFresh hb (B:=0) (F:=fun _=>False)) (fun _ _ q=>q)
theorem ActsAt.at_ {w:World} {v:Value} {l:List Evl} (h:ActsAt w v l) {i:Nat} (hi:i<l.length):∃g off c,v= .slice (some ⟨g,off,none⟩) l.length c∧l.length≤c∧∀r,r<7→w.cell? ⟨g,off+i*7+r,none⟩=(evCells (l.getD i Evl.none_).ev (l.getD i Evl.none_).lv (l.getD i Evl.none_).o (l.getD i Evl.none_).v)[r]? := by
 rcases h.row with ⟨rfl,_⟩|⟨g,off,c,hv,hg,hc,hcell⟩
 ·simp at hi
 ·exact ⟨g,off,c,hv,hc,hcell i hi⟩
theorem ActsAt.slice {w:World} {v:Value} {l:List Evl} (h:ActsAt w v l):∃A c,v= .slice A l.length c:=by
 rcases h.row with ⟨rfl,A,c,hv⟩|⟨g,off,c,hv,_⟩
 ·exact ⟨A,c,hv⟩
 ·exact ⟨_,c,hv⟩
theorem ActsAt.loadOk {w w':World} {v:Value} {l:List Evl} {Y:Lay} {b:Bd} (h:ActsAt w v l) {i:Nat} (hi:i<l.length) (hs:(l.getD i Evl.none_).ev.load.length≤1000) (hb:Below w.heap.size w w') (hn:∀k,BdF Y b k→w.heap.size≤k):LoadOk w' Y b (l.getD i Evl.none_).lv (l.getD i Evl.none_).ev.load:=
 ⟨((h.fresh hb).load i hi).1,hs,fun k q z=>⟨((h.fresh hb).load i hi).2 k q z,fun r=>by have:=hn k r;have:=(h.load i hi).2 k q z;omega⟩⟩
theorem zero31:(Tryz.prog.info? 31).map (fun i=>(i.zero,i.size,i.bytes))=some (some (.slice none 0 0),1,24):=by kernel_rfl
theorem under41:Tryz.prog.underlying 41=some (.slice 31):=by kernel_rfl
theorem lp_push (W:World) (v:Value) (n:Nat) (xs:List Value) (hn:n≤1000) (h:RowZ W 31 1 v n xs) (A:Option Addr) (m q:Nat):
  ∃A7 q7 w7,(Builtin.append_ #[41,41] 41 #[v, .slice (some ⟨W.heap.size,0,none⟩) 1 1]).run Tryz.prog (W.alloc (.cells #[.slice A m q] 31))= .ok (.slice A7 (n+1) q7) w7∧
   RowZ w7 31 1 (.slice A7 (n+1) q7) (n+1) (xs ++ [.slice A m q])∧(W.alloc (.cells #[.slice A m q] 31)).grownBy w7 v.ownBlock∧((Value.slice A7 (n+1) q7).ownBlock=v.ownBlock∨(Value.slice A7 (n+1) q7).ownBlock=some (W.alloc (.cells #[.slice A m q] 31)).heap.size):=by
 obtain ⟨i0,hi,hzz⟩:=Option.map_eq_some_iff.1 zero31
 simp only [Prod.mk.injEq] at hzz
 obtain ⟨hz0,hz1,hz2⟩:=hzz
 have hb:Below W.heap.size W (W.alloc (.cells #[.slice A m q] 31)):=(Below.refl _ _).alloc (Nat.le_refl _) _
 have n6:=Blk.new W 31 [.slice A m q]
 obtain ⟨v7,w7,h1,h2,h3,h4⟩:=RowZ.append (P:=Tryz.prog) (W.alloc (.cells #[.slice A m q] 31)) 41 41 31 i0 _ 1 24 under41 hi hz0 hz1 hz2 rfl (by decide) _ _ _ (h.move fun k q=>hb.block k (h.lt k q)) ⟨W.heap.size,0,none⟩ 1 1 [.slice A m q] rfl
  (by intro j u hu;rw [add_lit,Nat.zero_add];exact (n6.cell j).trans hu) (by intro u hu;rw [List.mem_singleton.1 hu];rfl) (by unfold maxLen;omega) (by omega)
 obtain ⟨A7,q7,hv⟩:=h2.slice
 subst hv
 exact ⟨A7,q7,w7,h1,h2,h3,h4⟩
structure LoadsAt (w:World) (v:Value) (vs:List Value) (ls:Loads):Prop where
 row:RowZ w 31 1 v ls.length vs
 load:∀j,j<ls.length→RowI w (vs.getD j nilS) (ls.getD j [])
theorem LoadsAt.nil (w:World):LoadsAt w nilS [] []:=⟨⟨rfl, .inl ⟨rfl,rfl⟩⟩,fun j hj=>by simp at hj⟩
theorem LoadsAt.fresh {w w':World} {v:Value} {vs:List Value} {ls:Loads} (h:LoadsAt w v vs ls) (hb:Below w.heap.size w w'):LoadsAt w' v vs ls:=
 ⟨h.row.move fun k q=>hb.block k (h.row.lt k q),fun j hj=>Row.below (h.load j hj) hb⟩
theorem LoadsAt.len {w:World} {v:Value} {vs:List Value} {ls:Loads} (h:LoadsAt w v vs ls):vs.length=ls.length:=by
 have:=h.row.1
 simpa using this
theorem LoadsAt.push {x w7:World} {v v7 lv:Value} {vs:List Value} {ls:Loads} {l:List Int} (h:LoadsAt x v vs ls) (hl:RowI x lv l) (hR:RowZ w7 31 1 v7 (ls.length+1) (vs ++ [lv])) (hk:Keep (fun k=>v.ownBlock=some k) x w7):LoadsAt w7 v7 (vs ++ [lv]) (ls ++ [l]):=by
 have hne:∀u xs,RowI x u xs→∀k,u.ownBlock=some k→ ¬v.ownBlock=some k:=fun u xs hu k q e=>by
  obtain ⟨cur,hcur⟩:=h.row.typed k e
  exact Row.ne hu hcur (by decide) q
 refine ⟨by rw [List.length_append];exact hR,fun j hj=> ?_⟩
 rw [List.length_append] at hj
 have hj:j<ls.length+1:=by simpa using hj
 by_cases e:j=ls.length
 ·subst e
  have e1:(vs ++ [lv]).getD ls.length nilS=lv:=by rw [←h.len];simp [List.getD]
  have e2:(ls ++ [l]).getD ls.length []=l:=by simp [List.getD]
  rw [e1,e2]
  exact Row.keep hl hk (hne _ _ hl)
 ·rw [getD_push _ _ _ _ (by rw [h.len];omega),getD_push _ _ _ _ (by omega)]
  exact Row.keep (h.load j (by omega)) hk (hne _ _ (h.load j (by omega)))
theorem LoadsAt.stay {x w7:World} {v v':Value} {vs vs':List Value} {ls ls':Loads} (h:LoadsAt x v vs ls) (h':LoadsAt x v' vs' ls') (hd:∀k,v.ownBlock=some k→v'.ownBlock≠some k) (hk:Keep (fun k=>v.ownBlock=some k) x w7):LoadsAt w7 v' vs' ls':=by
 refine ⟨h'.row.keep hk (fun k q e=>hd k e q),fun j hj=> ?_⟩
 refine Row.keep (h'.load j hj) hk fun k q e=> ?_
 obtain ⟨cur,hcur⟩:=h.row.typed k e
 exact Row.ne (h'.load j hj) hcur (by decide) q
theorem LoadsAt.add {x:World} {v:Value} {vs:List Value} {ls:Loads} {A:Option Addr} {m q:Nat} {l:List Int} (h:LoadsAt x v vs ls) (hn:ls.length≤1000) (hl:RowI x (.slice A m q) l):
  ∃A7 q7 w7,(Builtin.append_ #[41,41] 41 #[v, .slice (some ⟨x.heap.size,0,none⟩) 1 1]).run Tryz.prog (x.alloc (.cells #[.slice A m q] 31))= .ok (.slice A7 (ls.length+1) q7) w7∧
   LoadsAt w7 (.slice A7 (ls.length+1) q7) (vs ++ [.slice A m q]) (ls ++ [l])∧Keep (fun k=>v.ownBlock=some k) x w7∧∀k,(Value.slice A7 (ls.length+1) q7).ownBlock=some k→v.ownBlock=some k∨x.heap.size≤k:=by
 obtain ⟨A7,q7,w7,h1,h2,h3,h4⟩:=lp_push x v ls.length vs hn h.row A m q
 have hb:Below x.heap.size x (x.alloc (.cells #[.slice A m q] 31)):=(Below.refl _ _).alloc (Nat.le_refl _) _
 have hk:Keep (fun k=>v.ownBlock=some k∨x.heap.size≤k) x w7:=by
  have:=Keep.grown h3
  exact (Keep.ofFresh hb (B:=0)).trans' (this.mono fun k _ q=> .inl q)
 have hk2:Keep (fun k=>v.ownBlock=some k) x w7:=hk.mono fun k hk q=>q.elim id (fun e=>by omega)
 refine ⟨A7,q7,w7,h1,h.push hl h2 hk2,hk2,fun k q=> ?_⟩
 have hs:=hb.size
 rcases h4 with e|e
 ·exact .inl (by rw [←e];exact q)
 ·rw [e] at q
  injection q with q
  exact .inr (by omega)
structure Tri (w u:World) (vs vm vg:Value) (c:Loads × Loads × Loads):Prop where
 b:Below w.heap.size w u
 s:∃ls,LoadsAt u vs ls c.1
 m:∃lm,LoadsAt u vm lm c.2.1
 g:∃lg,LoadsAt u vg lg c.2.2
 own:∀k,(vs.ownBlock=some k∨vm.ownBlock=some k∨vg.ownBlock=some k)→w.heap.size≤k
 sm:∀k,vs.ownBlock=some k→vm.ownBlock≠some k
 sg:∀k,vs.ownBlock=some k→vg.ownBlock≠some k
 mg:∀k,vm.ownBlock=some k→vg.ownBlock≠some k
theorem nil_own (k:Nat):nilS.ownBlock≠some k:=by simp [nilS,Value.ownBlock]
theorem Tri.first (w:World):Tri w w nilS nilS nilS ([], [], []):=
 ⟨Below.refl _ _,⟨_, .nil w⟩,⟨_, .nil w⟩,⟨_, .nil w⟩,fun k q=>by rcases q with q|q|q<;>exact absurd q (nil_own k),fun k q=>absurd q (nil_own k),fun k q=>absurd q (nil_own k),fun k q=>absurd q (nil_own k)⟩
theorem LoadsAt.lt {w:World} {v:Value} {vs:List Value} {ls:Loads} (h:LoadsAt w v vs ls) (k:Nat) (q:v.ownBlock=some k):k<w.heap.size:=h.row.lt k q
section
variable {w u x:World} {vs vm vg:Value} {s:Loads × Loads × Loads} {A:Option Addr} {m q:Nat} {l:List Int}
theorem Tri.fresh (h:Tri w u vs vm vg s) (hb:Below u.heap.size u x):Tri w x vs vm vg s:=by
 obtain ⟨h0,⟨ls,h1⟩,⟨lm,h2⟩,⟨lg,h3⟩,h4,h5,h6,h7⟩:=h
 exact ⟨h0.trans (hb.mono h0.size),⟨ls,h1.fresh hb⟩,⟨lm,h2.fresh hb⟩,⟨lg,h3.fresh hb⟩,h4,h5,h6,h7⟩
theorem Tri.rows (h:Tri w u vs vm vg s):(∃A c,vs= .slice A s.1.length c)∧(∃A c,vm= .slice A s.2.1.length c)∧∃A c,vg= .slice A s.2.2.length c:=by
 obtain ⟨h0,⟨ls,h1⟩,⟨lm,h2⟩,⟨lg,h3⟩,h4,h5,h6,h7⟩:=h
 exact ⟨h1.row.slice,h2.row.slice,h3.row.slice⟩
theorem Tri.sent (h:Tri w u vs vm vg s) (hn:s.1.length≤1000) (hl:RowI u (.slice A m q) l):
  ∃A7 q7 w7,(Builtin.append_ #[41,41] 41 #[vs, .slice (some ⟨u.heap.size,0,none⟩) 1 1]).run Tryz.prog (u.alloc (.cells #[.slice A m q] 31))= .ok (.slice A7 (s.1.length+1) q7) w7∧
   Tri w w7 (.slice A7 (s.1.length+1) q7) nilS vg (s.1 ++ [l], [],s.2.2):=by
 obtain ⟨h0,⟨ls,h1⟩,⟨lm,h2⟩,⟨lg,h3⟩,h4,h5,h6,h7⟩:=h
 obtain ⟨A7,q7,w7,r1,r2,r3,r4⟩:=h1.add hn hl
 refine ⟨A7,q7,w7,r1,⟨h0.trans (Keep.toBelow (r3.mono fun k _ q=>h4 k (.inl q)) h0.size),⟨_,r2⟩,⟨_, .nil _⟩,⟨_,h1.stay h3 h6 r3⟩,fun k q=> ?_,fun k _=>nil_own k,fun k q e=> ?_,fun k q=>absurd q (nil_own k)⟩⟩
 ·rcases q with q|q|q
  ·rcases r4 k q with e|e
   ·exact h4 k (.inl e)
   ·exact Nat.le_trans h0.size e
  ·exact absurd q (nil_own k)
  ·exact h4 k (.inr (.inr q))
 ·rcases r4 k q with e1|e1
  ·exact h6 k e1 e
  ·have:=h3.lt k e
   omega
theorem Tri.more (h:Tri w u vs vm vg s) (hn:s.2.1.length≤1000) (hl:RowI u (.slice A m q) l):
  ∃A7 q7 w7,(Builtin.append_ #[41,41] 41 #[vm, .slice (some ⟨u.heap.size,0,none⟩) 1 1]).run Tryz.prog (u.alloc (.cells #[.slice A m q] 31))= .ok (.slice A7 (s.2.1.length+1) q7) w7∧
   Tri w w7 vs (.slice A7 (s.2.1.length+1) q7) vg (s.1,s.2.1 ++ [l],s.2.2):=by
 obtain ⟨h0,⟨ls,h1⟩,⟨lm,h2⟩,⟨lg,h3⟩,h4,h5,h6,h7⟩:=h
 obtain ⟨A7,q7,w7,r1,r2,r3,r4⟩:=h2.add hn hl
 refine ⟨A7,q7,w7,r1,⟨h0.trans (Keep.toBelow (r3.mono fun k _ q=>h4 k (.inr (.inl q))) h0.size),⟨_,h2.stay h1 (fun k e1 e2=>h5 k e2 e1) r3⟩,⟨_,r2⟩,⟨_,h2.stay h3 h7 r3⟩,fun k q=> ?_,fun k q e=> ?_,h6,fun k q e=> ?_⟩⟩
 ·rcases q with q|q|q
  ·exact h4 k (.inl q)
  ·rcases r4 k q with e|e
   ·exact h4 k (.inr (.inl e))
   ·exact Nat.le_trans h0.size e
  ·exact h4 k (.inr (.inr q))
 ·rcases r4 k e with e1|e1
  ·exact h5 k q e1
  ·have:=h1.lt k q
   omega
 ·rcases r4 k q with e1|e1
  ·exact h7 k e1 e
  ·have:=h3.lt k e
   omega
theorem Tri.got (h:Tri w u vs vm vg s) (hn:s.2.2.length≤1000) (hl:RowI u (.slice A m q) l):
  ∃A7 q7 w7,(Builtin.append_ #[41,41] 41 #[vg, .slice (some ⟨u.heap.size,0,none⟩) 1 1]).run Tryz.prog (u.alloc (.cells #[.slice A m q] 31))= .ok (.slice A7 (s.2.2.length+1) q7) w7∧
   Tri w w7 vs vm (.slice A7 (s.2.2.length+1) q7) (s.1,s.2.1,s.2.2 ++ [l]):=by
 obtain ⟨h0,⟨ls,h1⟩,⟨lm,h2⟩,⟨lg,h3⟩,h4,h5,h6,h7⟩:=h
 obtain ⟨A7,q7,w7,r1,r2,r3,r4⟩:=h3.add hn hl
 refine ⟨A7,q7,w7,r1,⟨h0.trans (Keep.toBelow (r3.mono fun k _ q=>h4 k (.inr (.inr q))) h0.size),⟨_,h3.stay h1 (fun k e1 e2=>h6 k e2 e1) r3⟩,⟨_,h3.stay h2 (fun k e1 e2=>h7 k e2 e1) r3⟩,⟨_,r2⟩,fun k q=> ?_,h5,fun k q e=> ?_,fun k q e=> ?_⟩⟩
 ·rcases q with q|q|q
  ·exact h4 k (.inl q)
  ·exact h4 k (.inr (.inl q))
  ·rcases r4 k q with e|e
   ·exact h4 k (.inr (.inr e))
   ·exact Nat.le_trans h0.size e
 ·rcases r4 k e with e1|e1
  ·exact h6 k q e1
  ·have:=h1.lt k q
   omega
 ·rcases r4 k e with e1|e1
  ·exact h7 k q e1
  ·have:=h2.lt k q
   omega
end
section
open Go.ChangeShapes Go.WideShapes Go.RowKit Go.Deep
theorem choose_list {α : Type} (n:Nat) (p:Nat→ α → Prop) (h:∀i,i<n→∃x,p i x):∃l:List α,l.length=n∧∀i x,l[i]? = some x→p i x:=by
 induction n with
 | zero=>exact ⟨[],rfl,fun i x hx=>by simp at hx⟩
 | succ n ih=>
  obtain ⟨l,hl,hp⟩:=ih fun i hi=>h i (by omega)
  obtain ⟨x,hx⟩:=h n (by omega)
  refine ⟨l ++ [x],by simp [hl],fun i y hy=> ?_⟩
  by_cases hi:i<n
  ·rw [List.getElem?_append_left (by omega)] at hy
   exact hp i y hy
  ·rw [List.getElem?_append_right (by omega)] at hy
   have hi0:i-l.length=0:=by
    have:=(List.getElem?_eq_some_iff.1 hy).1
    simp at this
    omega
   rw [hi0] at hy
   simp at hy
   subst hy
   have:i=n:=by omega
   subst this
   exact hx
theorem spot_none {w:World} {a:Addr} {v:Value} (hc:w.cell? a=some v):a=⟨a.block,a.off,none⟩∧a.block<w.heap.size:=by
 have hb:=World.block_lt_of_cell? w a (by rw [hc])
 refine ⟨?_,hb⟩
 have hs:a.spot=none:=by
  unfold World.cell? at hc
  split at hc
  ·split at hc
   ·simp at hc
   ·rename_i hs;simpa using hs
  ·simp at hc
 obtain ⟨b,o,s⟩:=a
 simp only at hs
 subst hs
 rfl
section
variable {H:Type} {enc:TypeId × Value→H} {P:Program} {w:World} {base:Nat} {spare:Nat→Bool} {held:Bool}
theorem open_slice_fields {t e:TypeId} {fs:Array Field} {fuel:Nat} {cs:List Value} {x:DataW H × List MemPlace} (ht:P.underlying t=some (.slice e)) (he:P.underlying e=some (.struct fs))
  (hone:oneCellFields P fs=true) (hC:P.cellsOf e=fs.size) (h:DataW.trod enc P w base spare held fuel t cs=some x):
  (cs= [.slice none 0 0]∧x=(.nil, []))∨
  ∃(a:Addr) (len cap m:Nat) (D:Nat→DataW H) (Pl:Nat→List MemPlace),cs= [.slice (some a) len cap]∧base≤a.block∧len≤cap∧cap≤maxLen∧m=(if spare a.block then cap else len)∧
   x=(.slice ((List.range len).map D) ((List.range (m-len)).map fun j=>D (len+j)),MemPlace.row a (m*fs.size)++(List.range m).flatMap Pl)∧
   ∀i,i<m→∃(ys:List (DataW H × List MemPlace)) (n:Nat),D i= .agg (ys.map (·.1))∧Pl i=ys.flatMap (·.2)∧ys.length=fs.size∧
    ∀(j:Nat) (f:Field),fs[j]? = some f→∃(v:Value) (y:DataW H × List MemPlace),w.cell? (a.add (i*fs.size+j))=some v∧ys[j]? = some y∧DataW.trod enc P w base spare held n f.type [v]=some y:=by
 rcases open_slice ht h with h0|⟨a,len,cap,m,n,D,Pl,hcs,hb,hl,hm,hmm,hx,hi⟩
 ·exact .inl h0
 ·refine .inr ⟨a,len,cap,m,D,Pl,hcs,hb,hl,hm,hmm,by rw [hC] at hx;exact hx,fun i him=> ?_⟩
  obtain ⟨cs',hc,ht'⟩:=hi i him
  rw [hC] at hc
  obtain ⟨ys,n',hn',hy,hlen,hyl,hf⟩:=DataW.trod_struct he ht'
  obtain ⟨_,hcl,hat⟩:=World.cells?_some hc
  simp only [Prod.mk.injEq] at hy
  refine ⟨ys,n',hy.1,hy.2,hyl,fun j f hj=> ?_⟩
  obtain ⟨ho,hk⟩:=hone_of hone j f hj
  have hjl:j<fs.size:=(Array.getElem?_eq_some_iff.1 hj).1
  have hcell:=hat j hjl
  have hv:cs'[j]? = some (cs'[j]'(by omega)):=List.getElem?_eq_getElem (by omega)
  have h1:=hf j f hj
  rw [ho,hk] at h1
  have hone':(cs'.drop j).take 1= [cs'[j]'(by omega)]:=by
   rw [List.drop_eq_getElem_cons (by omega)]
   rfl
  rw [hone'] at h1
  have hys:ys[j]? = some (ys[j]'(by omega)):=List.getElem?_eq_getElem (by omega)
  refine ⟨_,_, ?_,hys,h1.trans hys⟩
  rw [←Go.Deep.add_add,hcell,hv]
end
section
variable {H:Type} {enc:TypeId × Value→H} {w:World} {held:Bool} {fuel:Nat}
theorem cellsOf3:Tryz.prog.cellsOf 3=1:=by kernel_rfl
theorem readI_of {v:Value} {x:DataW H × List MemPlace} (h:DataW.trod enc Tryz.prog w 0 (fun _=>true) held fuel 31 [v]=some x):∃xs,ReadI w v xs∧∀k,v.ownBlock=some k→0<xs.length→k<w.heap.size:=by
 rcases open_slice under31 h with ⟨hcs, -⟩|⟨a,len,cap,m,n,D,Pl,hcs, -,hl,hm,hmm,hx,hi⟩
 ·simp only [List.cons.injEq,and_true] at hcs
  subst hcs
  exact ⟨[], .inl ⟨rfl,none,0,rfl⟩,fun k q=>by simp [Value.ownBlock] at q⟩
 ·simp only [List.cons.injEq,and_true] at hcs
  subst hcs
  simp only [if_true] at hmm
  subst hmm
  have one:∀i,i<len→∃z:Int,w.cell? (a.add i)=some (.int .i64 z):=by
   intro i hil
   obtain ⟨cs',hc,ht'⟩:=hi i (by omega)
   rw [cellsOf3,Nat.mul_one] at hc
   obtain ⟨_,hcl,hat⟩:=World.cells?_some hc
   obtain ⟨z,hz, -, -⟩:=DataW.trod_int under3 ht'
   subst hz
   have:=hat 0 (by omega)
   refine ⟨z, ?_⟩
   have e0:(a.add i).add 0=a.add i:=by simp [Addr.add]
   rw [e0] at this
   simpa using this
  obtain ⟨xs,hxl,hxs⟩:=choose_list len (fun i (z:Int)=>w.cell? (a.add i)=some (.int .i64 z)) one
  refine ⟨xs, ?_,fun k q h0=> ?_⟩
  ·by_cases h0:0<len
   ·obtain ⟨z,hz⟩:=one 0 h0
    have e0:a.add 0=a:=by simp [Addr.add]
    rw [e0] at hz
    obtain ⟨ha,hb⟩:=spot_none hz
    refine .inr ⟨a.block,a.off,_,by rw [hxl, ←ha],hb,by omega,fun j hj=> ?_⟩
    have:=hxs j _ (List.getElem?_eq_getElem (by omega))
    rw [ha,add_lit] at this
    rw [this,List.getD_eq_getElem?_getD,List.getElem?_eq_getElem (by omega)]
    rfl
   ·have hl0:len=0:=by omega
    subst hl0
    exact .inl ⟨List.eq_nil_of_length_eq_zero hxl,_,_,rfl⟩
  ·obtain ⟨z,hz⟩:=one 0 (by omega)
   have e0:a.add 0=a:=by simp [Addr.add]
   rw [e0] at hz
   obtain ⟨ha,hb⟩:=spot_none hz
   rw [ha] at q
   simp [Value.ownBlock] at q
   omega
end
theorem arr_of {H:Type} {enc:TypeId × Value→H} {P:Program} {w:World} {base:Nat} {sp:Nat→Bool} {held:Bool} {fuel n:Nat} {t e:TypeId} {k:IntKind} {cs:List Value} {ds:List Int} {p:List MemPlace} (ht:P.underlying t=some (.array n e)) (he:P.underlying e=some (.int k)) (hC:P.cellsOf e=1) (hCt:P.cellsOf t=n)
  (hl:ds.length=n) (h:DataW.trod enc P w base sp held fuel t cs=some (.agg (ds.map fun x=> .lit (.int k x)),p)):cs=ds.map (Value.int k):=by
 obtain ⟨xs,m, -,hx,hcl,hxl,hg⟩:=DataW.trod_array ht h
 simp only [Prod.mk.injEq,DataW.agg.injEq] at hx
 apply List.ext_getElem?
 intro i
 by_cases hi:i<n
 ·have h1:=hg i hi
  rw [hC,Nat.mul_one] at h1
  have h2:(cs.drop i).take 1= [cs[i]'(by omega)]:=by
   rw [List.drop_eq_getElem_cons (by omega)]
   rfl
  rw [h2] at h1
  have hxi:xs[i]? = some (xs[i]'(by omega)):=List.getElem?_eq_getElem (by omega)
  rw [hxi] at h1
  obtain ⟨z,hz,hz2, -⟩:=DataW.trod_int he h1
  simp at hz
  have h3:=congrArg (fun q=>q[i]?) hx.1
  simp only [List.getElem?_map,hxi,Option.map_some,List.getElem?_eq_getElem (show i<ds.length by omega),hz2,Option.some.injEq,DataW.lit.injEq,Lit.int.injEq,true_and] at h3
  rw [List.getElem?_eq_getElem (by omega),hz,List.getElem?_map,List.getElem?_eq_getElem (by omega),Option.map_some,h3]
 ·rw [List.getElem?_eq_none (by omega),List.getElem?_eq_none (by rw [List.length_map];omega)]
theorem gn0:Tryz.prog.globalNamed "switchyard/plot.ahead" = some 0:=by kernel_rfl
theorem gn1:Tryz.prog.globalNamed "math/bits.deBruijn64tab" = some 1:=by kernel_rfl
theorem gt0:(Tryz.prog.globals[0]?).map (·.type)=some 157:=by kernel_rfl
theorem gt1:(Tryz.prog.globals[1]?).map (·.type)=some 200:=by kernel_rfl
theorem under157:Tryz.prog.underlying 157=some (.array 9 3):=by kernel_rfl
theorem under200:Tryz.prog.underlying 200=some (.array 64 5):=by kernel_rfl
theorem under5:Tryz.prog.underlying 5=some (.int .u8):=by kernel_rfl
theorem cellsOf5:Tryz.prog.cellsOf 5=1:=by kernel_rfl
theorem cellsOf157:Tryz.prog.cellsOf 157=9:=by kernel_rfl
theorem cellsOf200:Tryz.prog.cellsOf 200=64:=by kernel_rfl
def aheads:List Int:= [0,0,0,0,0,0,1,2,3]
theorem laid_tab:(Rows.laid_math_bits_deBruijn64tab:DataW Unit)= .agg (deb.map fun x=> .lit (.int .u8 x)):=by kernel_rfl
theorem laid_ahead:(Rows.laid_switchyard_plot_ahead:DataW Unit)= .agg (aheads.map fun x=> .lit (.int .i64 x)):=by kernel_rfl
theorem glob_of {W:World} (h:laidMetH Tryz.prog [("math/bits.deBruijn64tab",Rows.laid_math_bits_deBruijn64tab),("switchyard/plot.ahead",Rows.laid_switchyard_plot_ahead)] W):Glob W:=by
 have h:laidMet Tryz.prog [("math/bits.deBruijn64tab",Rows.laid_math_bits_deBruijn64tab),("switchyard/plot.ahead",Rows.laid_switchyard_plot_ahead)] W:=h
 obtain ⟨ps,⟨g,t,cs,fuel,p,q,hg,ht,hvar,hd,hr,_⟩,_⟩:=h
 obtain ⟨g2,t2,cs2,fuel2,p2,q2,hg2,ht2,hvar2,hd2,_,_⟩:=hr
 obtain rfl:=Option.some.inj (gn1.symm.trans hg)
 obtain rfl:=Option.some.inj (gt1.symm.trans ht)
 obtain rfl:=Option.some.inj (gn0.symm.trans hg2)
 obtain rfl:=Option.some.inj (gt0.symm.trans ht2)
 rw [laid_tab] at hd
 rw [laid_ahead] at hd2
 have e1:=arr_of under200 under5 cellsOf5 cellsOf200 (by decide) hd
 have e2:=arr_of under157 under3 cellsOf3 cellsOf157 (by decide) hd2
 have c2:∀j,W.cell? ⟨0,j,none⟩=(aheads.map (Value.int .i64))[j]? := fun j=>by
  have:=World.var?_cell hg2 hvar2 j
  rw [this, ←e2];simp
 refine ⟨⟨c2 5,c2 6,c2 7,c2 8⟩,fun j hj=> ?_⟩
 have:=World.var?_cell hg hvar j
 rw [this]
 have e3:cs[j]? = cs.toList[j]? := by simp
 rw [e3,e1,List.getElem?_map,List.getD_eq_getElem?_getD]
 have hdl:deb.length=64:=by decide
 rw [List.getElem?_eq_getElem (by omega)]
 rfl
noncomputable def laidWorld (os:Os):World:=
 let w0:=World.holding Tryz.prog os ⟨#[], #[], []⟩
 { w0 with heap:=(w0.heap.modify 0 fun
   | .cells _ t fr=> .cells (aheads.map (Value.int .i64)).toArray t fr
   | o=>o).modify 1 fun
   | .cells _ t fr=> .cells (deb.map (Value.int .u8)).toArray t fr
   | o=>o }
theorem laidWorld_met (os:Os) (args:Array Value):laidMetH Tryz.prog [("math/bits.deBruijn64tab",Rows.laid_math_bits_deBruijn64tab),("switchyard/plot.ahead",Rows.laid_switchyard_plot_ahead)] ((laidWorld os).forCall (fun _ _=>0) ⟨#[],args, []⟩).memory:=
 laidMetH_of_parts (laidMet_of_run' 8 (by kernel_rfl) (by kernel_rfl)) (by kernel_rfl)
end
end Go.Proofs.YtaaffebnajjfhaaGreatDoor.T
