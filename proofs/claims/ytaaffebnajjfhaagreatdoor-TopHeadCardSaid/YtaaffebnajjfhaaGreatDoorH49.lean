/- Texts of this proof, merged: Hd4, Hd5, Hd6, Hd7, Hd8, Hd9, Hd10, Hd11, Hd12, Hd13, Hd14. -/
import Derived.Test.YtaaffebnajjfhaaGreatDoorH42
import Derived.Test.YtaaffebnajjfhaaGreatDoorH46
import Derived.Test.YtaaffebnajjfhaaGreatDoorH41
import Derived.Test.YtaaffebnajjfhaaGreatDoorH48
import Derived.Test.YtaaffebnajjfhaaGreatDoorH43
import Derived.Test.YtaaffebnajjfhaaGreatDoorH27
import Derived.BigQuiet
import Derived.Test.YtaaffebnajjfhaaGreatDoorH40
namespace Go.Proofs.YtaaffebnajjfhaaGreatDoor.T
set_option linter.unusedVariables false
set_option linter.unusedSimpArgs false
set_option linter.unusedSectionVars false
open Go.RowKit
theorem okCount_eq (b:Bd):(((b.diary.filter (isSent 0 1)).filter (isDone 1 0)).length)=okCount b:=by
 unfold okCount
 rw [List.filter_filter]
 congr 2
 funext e
 unfold isDone isSent
 rw [Bool.eq_iff_iff]
 simp only [Bool.and_eq_true,decide_eq_true_eq]
 constructor
 ·rintro ⟨⟨⟨a,b⟩,c⟩,⟨d,e⟩,f⟩;exact ⟨a,e,f,b,c⟩
 ·rintro ⟨a,b,c,d,e⟩;exact ⟨⟨⟨a,d⟩,e⟩,⟨a,b⟩,c⟩
theorem takes_eq (b:Bd):b.diary.filter (isTaken 0 1)=takes b:=by
 unfold takes
 congr 1
 funext e
 unfold isTaken
 rw [Bool.eq_iff_iff]
 simp only [Bool.and_eq_true,Bool.or_eq_true,decide_eq_true_eq,and_assoc]
theorem Shrt.all {b:Bd} (h:Shrt b) (j:Nat) (hj:j<b.diary.length):(b.diary.getD j Ent.none_).load.length≤1000:=
 Nat.le_trans (shrt_getD h j) (by omega)
theorem filter_short {d:List Ent} (h:∀e∈d,e.load.length≤8) (p:Ent→Bool) (j:Nat) (hj:j<(d.filter p).length):((d.filter p).getD j Ent.none_).load.length≤1000:=
 Nat.le_trans (shrt_getD (fun e he=>h e (List.mem_filter.1 he).1) j) (by omega)
theorem LoadOk.fresh {w w':World} {Y:Lay} {b:Bd} {lv:Value} {xs:List Int} (h:LoadOk w Y b lv xs) (hb:Below w.heap.size w w'):LoadOk w' Y b lv xs:=
 ⟨h.read.fresh hb,h.len,fun k q z=>⟨Nat.lt_of_lt_of_le (h.own k q z).1 hb.size,(h.own k q z).2⟩⟩
theorem fine_do {w:World} {Y:Lay} {b:Bd} {N:Nat} {x:Ev} {lv:Value} (hF:Fine b N) (hN:N<40000) (hk:x.kind≠8) (hl:LoadOk w Y b lv x.load) (h:BdAt w Y b):
  Calls Tryz.prog 8 #[ptr Y.bd,evV x lv 0 0] w fun e w'=>e= .returned (.int .i64 (b.do_ x).2)∧BdTo w Y b (b.do_ x).1 w':=by
 obtain ⟨L,hG⟩:=hF.good
 have:=hF.now
 exact bDo_any hG (by omega) hF.dia hF.right hk hl h
set_option maxHeartbeats 400000 in
set_option maxRecDepth 100000 in
theorem begun_any {w:World} {Y:Lay} {b:Bd} {N k:Nat} {v:Value} {vs:List Value} {L:Loads} (hF:Fine b N) (hN:N<40000) (hS:Shrt b) (hk:k<L.length) (hL:L.length≤1000) (hv:LoadsAt w v vs L)
  (hl:LoadOk w Y b (vs.getD k nilS) (L.getD k [])) (h:BdAt w Y b):
  Calls Tryz.prog 13 #[ptr Y.bd,v, .int .i64 (k:Int)] w fun e w'=>e= .returned (.int .i64 ((begunB L b k).2:Int))∧BdTo w Y b (begunB L b k).1 w':=by
 have hnow:=hF.now
 have hdia:=hF.dia
 obtain ⟨g,cp,hve,hcp, -,hcell⟩:=hv.row.cells (by omega)
 subst hve
 have hck:=(hcell k (by omega)).1
 have hvk:vs[k]? = some (vs.getD k nilS):=by
  have:=hv.len
  rw [List.getD_eq_getElem?_getD,List.getElem?_eq_getElem (by omega),Option.getD_some]
 rw [hvk] at hck
 obtain ⟨Al,cl,hle⟩:=hl.read.slice
 have hgl:g<w.heap.size:=World.block_lt_of_cell? w _ hck
 have HD:=Lib.hid (bDiary_any (by omega) hS.all h)
 have HV:=Lib.hid (And.intro hF (And.intro hS (And.intro hl h)))
 have HC:=Lib.hid hck
 have hN5:b.diary.length≤50000:=by omega
 clear hF hS hl h hcell hvk hck hv
 generalize hld:L.getD k []=ld at *
 have HLD:=Lib.hid hld
 clear hld
 generalize hr:begunB L b k=r
 have HR:=Lib.hid hr
 clear hr
 go_enter Tryz.func13,Tryz.ntmps13
 go_wp2_with fail
 refine HD.out.mono ?_
 rintro e w1 ⟨v1,dl,rfl,hD1⟩
 have hO:Calls Tryz.prog 34 #[v1, .int .i64 0, .int .i64 1] w1 _:=dOf_any v1 b.diary dl 0 1 w1 (DRow.ofDia hD1) hN5 HV.out.2.1.all
 have HO:=Lib.hid hO
 have HD1:=Lib.hid hD1.b
 clear hO hD1 HD
 go_wp2_with fail
 refine HO.out.mono ?_
 rintro e w2 ⟨v2,v3,dl2,dl3,rfl,hB2,hd2, -⟩
 have hCt:Calls Tryz.prog 35 #[v2, .int .i64 1, .int .i64 0] w2 _:=dCount_any v2 _ dl2 1 0 w2 hd2 (Nat.le_trans (List.length_filter_le _ _) hN5) (filter_short HV.out.2.1 _)
 rw [okCount_eq] at hCt
 have HCt:=Lib.hid hCt
 have HB2:=Lib.hid hB2
 clear hCt hd2 hB2 HO
 go_wp2_with fail
 refine HCt.out.mono ?_
 rintro e w3 ⟨rfl,hB3⟩
 have hB:=HD1.out.trans ((HB2.out.trans (hB3.mono HB2.out.size)).mono HD1.out.size)
 have HB:=Lib.hid hB
 have hck:w3.cell? ⟨g,k,none⟩=some (vs.getD k nilS):=by rw [hB.cell (by exact hgl)];exact HC.out
 have hDo:=fine_do (x:=⟨3,0,1,0,ld⟩) HV.out.1 hN (by simp) (HV.out.2.2.1.fresh hB) (HV.out.2.2.2.fresh hB)
 rw [hle] at hck hDo
 have HDo:=Lib.hid hDo
 have hki:(k:Int)<(L.length:Int):=by omega
 have hk0:(0:Int)≤(k:Int):=by omega
 clear hB hB3 hDo HCt
 by_cases hlt:k<okCount b
 ·have hr:=HR.out
  unfold begunB at hr
  rw [if_pos hlt] at hr
  subst hr
  have hlt':(k:Int)<(okCount b:Int):=by omega
  clear hlt
  go_wp2_with fail
  go_ret
  exact ⟨rfl,BdTo.from_ HB.out (BdTo.refl (HV.out.2.2.2.fresh HB.out))⟩
 ·have hr:=HR.out
  unfold begunB at hr
  rw [if_neg hlt,HLD.out] at hr
  subst hr
  have hlt': ¬(k:Int)<(okCount b:Int):=by omega
  clear hlt
  go_wp2_with fail
  refine HDo.out.mono ?_
  rintro e w4 ⟨rfl,hT⟩
  have HT:=Lib.hid hT
  clear hT
  go_wp2_with fail
  go_ret
  exact ⟨rfl,BdTo.from_ HB.out HT.out⟩
def msgCells (m:Msg) (b:Value):List Value:= [.int .i64 m.kind, .int .i64 m.dst, .int .i64 m.src,b]
def msgsCells (bl:Nat→Value) (d:List Msg):List Value:=(List.range d.length).flatMap fun k=>msgCells (d.getD k Msg.none_) (bl k)
theorem msgsCells_get (bl:Nat→Value) (d:List Msg) {q r:Nat} (hq:q<d.length) (hr:r<4):(msgsCells bl d)[q*4+r]? = (msgCells (d.getD q Msg.none_) (bl q))[r]? := flat_get (fun k=>msgCells (d.getD k Msg.none_) (bl k)) 4 (fun _=>rfl) hq hr
theorem msgs_last (d:List Msg) (m:Msg):(d ++ [m]).getD d.length Msg.none_=m:=by
 rw [List.getD_eq_getElem?_getD,List.getElem?_append_right (Nat.le_refl _)];simp
theorem msgs_push (d:List Msg) (m:Msg) (j:Nat) (h:j<d.length):(d ++ [m]).getD j Msg.none_=d.getD j Msg.none_:=by
 rw [List.getD_eq_getElem?_getD,List.getElem?_append_left h, ←List.getD_eq_getElem?_getD]
theorem flatMap_eq {α β : Type} (l:List α) (f g: α → List β) (h:∀x∈l,f x=g x):l.flatMap f=l.flatMap g:=by
 induction l with
 | nil=>rfl
 | cons a l ih=>rw [List.flatMap_cons,List.flatMap_cons,h a (by simp),ih fun x hx=>h x (by simp [hx])]
theorem msgsCells_push (bl:Nat→Value) (d:List Msg) (m:Msg) (b:Value):msgsCells bl d++msgCells m b=msgsCells (upd bl d.length b) (d ++ [m]):=by
 unfold msgsCells
 rw [List.length_append,List.length_cons,List.length_nil,List.range_succ,List.flatMap_append,List.flatMap_singleton,msgs_last,upd_same]
 congr 1
 refine flatMap_eq _ _ _ fun k hk=> ?_
 have:=List.mem_range.1 hk
 rw [msgs_push _ _ _ this,upd_other _ _ _ _ (by omega)]
structure MsgsAt (w u:World) (v:Value) (d:List Msg) (bl:Nat→Value):Prop where
 b:Below w.heap.size w u
 row:RowZ u 54 4 v d.length (msgsCells bl d)
 bodies:∀j,j<d.length→RowI u (bl j) (d.getD j Msg.none_).body
 own:∀k,v.ownBlock=some k→w.heap.size≤k
theorem MsgsAt.fresh {w u u':World} {v:Value} {d:List Msg} {bl:Nat→Value} (h:MsgsAt w u v d bl) (hb:Below u.heap.size u u'):MsgsAt w u' v d bl:=
 ⟨h.b.trans (hb.mono h.b.size),h.row.move (fun k q=>hb.block k (h.row.lt k q)),fun j hj=>Row.below (h.bodies j hj) hb,h.own⟩
theorem MsgsAt.nil (w:World) (bl:Nat→Value):MsgsAt w w nilS [] bl:=⟨Below.refl _ _,⟨rfl, .inl ⟨rfl,rfl⟩⟩,fun j hj=>by simp at hj,fun k q=>by simp [nilS,Value.ownBlock] at q⟩
theorem info54:(Tryz.prog.info? 54).map (fun i=>(i.zero,i.size,i.bytes))=some (some (.agg #[.int .i64 0, .int .i64 0, .int .i64 0, .slice none 0 0]),4,48):=by kernel_rfl
theorem under46:Tryz.prog.underlying 46=some (.slice 54):=by kernel_rfl
theorem msg_push (W:World) (v:Value) (n:Nat) (xs:List Value) (hn:n≤1000) (h:RowZ W 54 4 v n xs) (m:Msg) (A:Option Addr) (p q:Nat):
  ∃A7 q7 w7,(Builtin.append_ #[46,46] 46 #[v, .slice (some ⟨W.heap.size,0,none⟩) 1 1]).run Tryz.prog (W.alloc (.cells (msgCells m (.slice A p q)).toArray 54))= .ok (.slice A7 (n+1) q7) w7∧
   RowZ w7 54 4 (.slice A7 (n+1) q7) (n+1) (xs++msgCells m (.slice A p q))∧(W.alloc (.cells (msgCells m (.slice A p q)).toArray 54)).grownBy w7 v.ownBlock∧((Value.slice A7 (n+1) q7).ownBlock=v.ownBlock∨(Value.slice A7 (n+1) q7).ownBlock=some (W.alloc (.cells (msgCells m (.slice A p q)).toArray 54)).heap.size):=by
 obtain ⟨i0,hi,hzz⟩:=Option.map_eq_some_iff.1 info54
 simp only [Prod.mk.injEq] at hzz
 obtain ⟨hz0,hz1,hz2⟩:=hzz
 have hb:Below W.heap.size W (W.alloc (.cells (msgCells m (.slice A p q)).toArray 54)):=(Below.refl _ _).alloc (Nat.le_refl _) _
 have n6:=Blk.new W 54 (msgCells m (.slice A p q))
 obtain ⟨v7,w7,h1,h2,h3,h4⟩:=RowZ.append (P:=Tryz.prog) (W.alloc (.cells (msgCells m (.slice A p q)).toArray 54)) 46 46 54 i0 _ 4 48 under46 hi hz0 hz1 hz2 rfl (by decide) _ _ _ (h.move fun k q=>hb.block k (h.lt k q)) ⟨W.heap.size,0,none⟩ 1 1 (msgCells m (.slice A p q)) rfl
  (by intro j u hu;rw [add_lit,Nat.zero_add];exact (n6.cell j).trans hu) (by intro u hu;simp only [msgCells,List.mem_cons,List.not_mem_nil,or_false] at hu;rcases hu with rfl|rfl|rfl|rfl<;>rfl) (by unfold maxLen;omega) (by omega)
 obtain ⟨A7,q7,hv⟩:=h2.slice
 subst hv
 exact ⟨A7,q7,w7,h1,h2,h3,h4⟩
theorem MsgsAt.push {w x:World} {v:Value} {d:List Msg} {bl:Nat→Value} {m:Msg} {A:Option Addr} {p q:Nat} (h:MsgsAt w x v d bl) (hn:d.length≤1000) (hl:RowI x (.slice A p q) m.body):
  ∃A7 q7 w7,(Builtin.append_ #[46,46] 46 #[v, .slice (some ⟨x.heap.size,0,none⟩) 1 1]).run Tryz.prog (x.alloc (.cells (msgCells m (.slice A p q)).toArray 54))= .ok (.slice A7 (d.length+1) q7) w7∧MsgsAt w w7 (.slice A7 (d.length+1) q7) (d ++ [m]) (upd bl d.length (.slice A p q))∧Keep (fun k=>v.ownBlock=some k) x w7∧∀k,(Value.slice A7 (d.length+1) q7).ownBlock=some k→v.ownBlock=some k∨x.heap.size≤k:=by
 obtain ⟨A7,q7,w7,h1,h2,h3,h4⟩:=msg_push x v d.length _ hn h.row m A p q
 have hb:Below x.heap.size x (x.alloc (.cells (msgCells m (.slice A p q)).toArray 54)):=(Below.refl _ _).alloc (Nat.le_refl _) _
 have hk:Keep (fun k=>v.ownBlock=some k) x w7:=(Keep.ofFresh hb (B:=0)).trans' (Keep.grown h3)
 have hne:∀u xs,RowI x u xs→∀k,u.ownBlock=some k→ ¬v.ownBlock=some k:=fun u xs hu k q e=>by
  obtain ⟨cur,hcur⟩:=h.row.typed k e
  exact Row.ne hu hcur (by decide) q
 refine ⟨A7,q7,w7,h1,⟨h.b.trans (Keep.toBelow (hk.mono fun k _ q=>h.own k q) h.b.size), ?_,fun j hj=> ?_,fun k q=> ?_⟩,hk,fun k q=> ?_⟩
 ·rw [List.length_append, ←msgsCells_push];exact h2
 ·rw [List.length_append] at hj
  have hj:j<d.length+1:=by simpa using hj
  by_cases e1:j=d.length
  ·subst e1
   rw [upd_same,msgs_last]
   exact Row.keep hl hk (hne _ _ hl)
  ·rw [upd_other _ _ _ _ e1,msgs_push _ _ _ (by omega)]
   exact Row.keep (h.bodies j (by omega)) hk (hne _ _ (h.bodies j (by omega)))
 ·rcases h4 with e1|e1
  ·rw [e1] at q;exact h.own k q
  ·rw [e1] at q
   injection q with q
   have:=hb.size
   have:=h.b.size
   omega
 ·rcases h4 with e1|e1
  ·rw [e1] at q;exact .inl q
  ·rw [e1] at q
   injection q with q
   have:=hb.size
   exact .inr (by omega)
def Apart (Y:Lay) (b:Bd) (v:Value) (ms:List Msg) (bl:Nat→Value):Prop:=∀k,(v.ownBlock=some k∨∃j,j<ms.length∧(bl j).ownBlock=some k)→ ¬BdF Y b k
theorem MsgsAt.lt {w u:World} {v:Value} {d:List Msg} {bl:Nat→Value} (h:MsgsAt w u v d bl) (k:Nat) (q:v.ownBlock=some k∨∃j,j<d.length∧(bl j).ownBlock=some k):k<u.heap.size:=by
 rcases q with q|⟨j,hj,q⟩
 ·exact h.row.lt k q
 ·exact Row.lt (h.bodies j hj) k q
theorem MsgsAt.keep {w u u':World} {v:Value} {d:List Msg} {bl:Nat→Value} {F:Nat→Prop} (h:MsgsAt w u v d bl) (hk:Keep F u u') (hF:∀k,(v.ownBlock=some k∨∃j,j<d.length∧(bl j).ownBlock=some k)→ ¬F k) (hge:∀k,F k→w.heap.size≤k):MsgsAt w u' v d bl:=
 ⟨h.b.trans (Keep.toBelow (hk.mono fun k _ q=>hge k q) h.b.size),h.row.move (fun k q=>hk.block k (h.row.lt k q) (hF k (.inl q))),fun j hj=>Row.keep (h.bodies j hj) hk (fun k q=>hF k (.inr ⟨j,hj,q⟩)),h.own⟩
def CameTo (w0 w:World) (Y:Lay) (b b':Bd) (v v':Value) (ms':List Msg) (bl':Nat→Value) (w':World):Prop:=
 ∃Y',(Y'.bd=Y.bd∧Y'.cg=Y.cg)∧BdAt w' Y' b'∧Keep (fun k=>BdF Y b k∨v.ownBlock=some k) w w'∧(∀k,BdF Y' b' k→BdF Y b k∨w.heap.size≤k)∧MsgsAt w0 w' v' ms' bl'∧Apart Y' b' v' ms' bl'
section
variable {w0 w x w7 w8:World} {Y:Lay} {b b':Bd} {v:Value} {ms:List Msg} {bl:Nat→Value}
theorem came_no (hge:∀k,BdF Y b k→w0.heap.size≤k) (hM:MsgsAt w0 w v ms bl) (hA:Apart Y b v ms bl) (hB:Below w.heap.size w x) (hT:BdTo x Y b b' w8):CameTo w0 w Y b b' v v ms bl w8:=by
 obtain ⟨Y',y,hY',hk,hn⟩:=hT
 have hs:=hB.size
 refine ⟨Y',y,hY',(Keep.ofFresh hB (B:=0)).trans' (hk.mono fun k _ q=> .inl q),fun k q=> ?_,(hM.fresh hB).keep hk (fun k q=>hA k q) hge,fun k q r=> ?_⟩
 ·rcases hn k q with e|e
  ·exact .inl e
  ·exact .inr (by omega)
 ·rcases hn k r with e|e
  ·exact hA k q e
  ·have:=hM.lt k q
   omega
theorem came_yes (h2:2≤w0.heap.size) (hge:∀k,BdF Y b k→w0.heap.size≤k) (hM:MsgsAt w0 w v ms bl) (hA:Apart Y b v ms bl) (h:BdAt w Y b) (hB:Below w.heap.size w x) {m:Msg} {A A7:Option Addr} {p q q7 n7:Nat}
  (hM7:MsgsAt w0 w7 (.slice A7 n7 q7) (ms ++ [m]) (upd bl ms.length (.slice A p q))) (hk7:Keep (fun k=>v.ownBlock=some k) x w7) (hbo:∀k,(Value.slice A p q).ownBlock=some k→w.heap.size≤k)
  (hvo:∀k,(Value.slice A7 n7 q7).ownBlock=some k→v.ownBlock=some k∨w.heap.size≤k):BdAt w7 Y b∧∀w8,BdTo w7 Y b b' w8→CameTo w0 w Y b b' v (.slice A7 n7 q7) (ms ++ [m]) (upd bl ms.length (.slice A p q)) w8:=by
 have hs:=hB.size
 have hs7:=hk7.size
 have hap:Apart Y b (.slice A7 n7 q7) (ms ++ [m]) (upd bl ms.length (.slice A p q)):=by
  intro k q r
  have hlt:=h.lt k r
  rcases q with q|⟨j,hj,q⟩
  ·rcases hvo k q with e|e
   ·exact hA k (.inl e) r
   ·omega
  ·rw [List.length_append] at hj
   have hj:j<ms.length+1:=by simpa using hj
   by_cases e:j=ms.length
   ·subst e
    rw [upd_same] at q
    have:=hbo k q
    omega
   ·rw [upd_other _ _ _ _ e] at q
    exact hA k (.inr ⟨j,by omega,q⟩) r
 refine ⟨(h.fresh hB).keep hk7 (fun k q r=>hA k (.inl r) q) (fun r=>by have:=hM.own _ r;omega) (fun r=>by have:=hM.own _ r;omega),fun w8 hT=> ?_⟩
 obtain ⟨Y',y,hY',hk,hn⟩:=hT
 refine ⟨Y',y,hY',((Keep.ofFresh hB (B:=0)).trans' (hk7.mono fun k _ q=> .inr q)).trans' (hk.mono fun k _ q=> .inl q),fun k q=> ?_,hM7.keep hk hap hge,fun k q r=> ?_⟩
 ·rcases hn k q with e|e
  ·exact .inl e
  ·exact .inr (by omega)
 ·rcases hn k r with e|e
  ·exact hap k q e
  ·have:=hM7.lt k q
   omega
end
def tkMs (b:Bd) (ms:List Msg) (m:Msg):List Msg:=if (takenB b).2=1 then ms ++ [m] else ms
theorem takenB_no {b:Bd} {x:Ent} (h:(takes b).getLast? = some x) (hc: ¬x.came) (ms:List Msg) (m:Msg):takenB b=((b.do_ ⟨4,1,0,0, []⟩).1,0)∧tkMs b ms m=ms:=by
 have e:takenB b=((b.do_ ⟨4,1,0,0, []⟩).1,0):=by
  unfold takenB
  rw [h]
  simp only
  rw [if_neg hc]
 refine ⟨e, ?_⟩
 unfold tkMs
 rw [e]
 rfl
theorem takenB_yes {b:Bd} {x:Ent} (h:(takes b).getLast? = some x) (hc:x.came) (ms:List Msg) (m:Msg):takenB b=((b.do_ ⟨5,1,0,x.handle, []⟩).1,1)∧tkMs b ms m=ms ++ [m]:=by
 have e:takenB b=((b.do_ ⟨5,1,0,x.handle, []⟩).1,1):=by
  unfold takenB
  rw [h]
  simp only
  rw [if_pos hc]
 refine ⟨e, ?_⟩
 unfold tkMs
 rw [e]
 rfl
set_option maxHeartbeats 2000000 in
set_option maxRecDepth 100000 in
theorem taken_any {w0 w:World} {Y:Lay} {b:Bd} {N:Nat} {v:Value} {ms:List Msg} {bl:Nat→Value} {m:Msg} (h2:2≤w0.heap.size) (hge:∀k,BdF Y b k→w0.heap.size≤k) (hF:Fine b N) (hN:N<40000) (hS:Shrt b) (hM:MsgsAt w0 w v ms bl) (hn:ms.length≤1000) (hA:Apart Y b v ms bl)
  (hT:∀e,(takes b).getLast? = some e→e.came→e.load=m.words∧m.wrong=0) (h:BdAt w Y b):
  Calls Tryz.prog 14 #[ptr Y.bd,v] w fun e w'=>∃v',e= .returned v'∧∃bl',CameTo w0 w Y b (takenB b).1 v v' (tkMs b ms m) bl' w':=by
 have hnow:=hF.now
 have hdia:=hF.dia
 have hN5:b.diary.length≤50000:=by omega
 have hLen:(takes b).length≤50000:=Nat.le_trans (List.length_filter_le _ _) hN5
 obtain ⟨A,cp,hv⟩:=hM.row.slice
 subst hv
 have HD:=Lib.hid (bDiary_any (by omega) hS.all h)
 have HV:=Lib.hid (And.intro hF (And.intro hS (And.intro hM (And.intro hA (And.intro hT (And.intro h (And.intro hge h2)))))))
 generalize hr:takenB b=r
 generalize hms:tkMs b ms m=ms'
 have HR:=Lib.hid (And.intro hr hms)
 clear hr hms hF hS hM hA hT h hge h2
 go_enter Tryz.func14,Tryz.ntmps14
 go_wp2_with fail
 refine HD.out.mono ?_
 rintro e w1 ⟨v1,dl,rfl,hD1⟩
 have hO:Calls Tryz.prog 34 #[v1, .int .i64 0, .int .i64 1] w1 _:=dOf_any v1 b.diary dl 0 1 w1 (DRow.ofDia hD1) hN5 HV.out.2.1.all
 rw [takes_eq] at hO
 have HO:=Lib.hid hO
 have HD1:=Lib.hid hD1.b
 clear hO hD1 HD
 go_wp2_with fail
 refine HO.out.mono ?_
 rintro e w2 ⟨v2,v3,dl2,dl3,rfl,hB2, -,hd3,ho3⟩
 have hB:=HD1.out.trans (hB2.mono HD1.out.size)
 have HB:=Lib.hid hB
 obtain ⟨A3,c3,hv3⟩:=hd3.slice
 subst hv3
 have hcal:∀x:Ev,x.kind≠8→x.load= []→Calls Tryz.prog 8 #[ptr Y.bd,evV x nilS 0 0] w2 fun e w'=>e= .returned (.int .i64 (b.do_ x).2)∧BdTo w2 Y b (b.do_ x).1 w':=fun x hx hl=>by
  refine fine_do HV.out.1 hN hx ?_ (HV.out.2.2.2.2.2.1.fresh hB)
  rw [hl];exact nilLoad _ _ _
 have hNo:=hcal ⟨4,1,0,0, []⟩ (by simp) rfl
 have HNo:=Lib.hid hNo
 have HD3:=Lib.hid (And.intro hd3 (fun k q=>Nat.le_trans HD1.out.size (ho3 k q)))
 clear hB hB2 hNo hcal hd3 ho3 HO HD1
 rcases Nat.eq_zero_or_pos (takes b).length with h0|h0
 ·have he:=List.eq_nil_of_length_eq_zero h0
  have hr:=HR.out.1
  have hms:=HR.out.2
  have e1:takenB b=((b.do_ ⟨4,1,0,0, []⟩).1,0):=by unfold takenB;rw [he];rfl
  have e2:tkMs b ms m=ms:=by unfold tkMs;rw [e1];rfl
  rw [e1] at hr
  rw [e2] at hms
  subst hr hms
  rw [h0]
  clear h0 he e1 e2
  go_wp2_with fail
  refine HNo.out.mono ?_
  rintro e w3 ⟨rfl,hT⟩
  have HT:=Lib.hid hT
  clear hT
  go_wp2_with fail
  go_ret
  exact ⟨_,rfl,bl,came_no HV.out.2.2.2.2.2.2.1 HV.out.2.2.1 HV.out.2.2.2.1 HB.out HT.out⟩
 ·obtain ⟨T,x,htk⟩:∃T x,takes b=T ++ [x]:=⟨(takes b).dropLast,(takes b).getLast (fun q=>by rw [q] at h0;simp at h0),(List.dropLast_concat_getLast _).symm⟩
  have hlen:(takes b).length=T.length+1:=by rw [htk];simp
  have hlast:(takes b).getLast? = some x:=by rw [htk,List.getLast?_concat]
  have hgx:(takes b).getD T.length Ent.none_=x:=by rw [htk];exact getD_last _ _ _
  obtain ⟨g,off,c',hve,hcc,hcell⟩:=HD3.out.1.at_ (j:=T.length) (by omega)
  have hld:=HD3.out.1.load T.length (by omega)
  rw [hgx] at hcell hld
  injection hve with e1 e2 e3
  subst e1 e3
  have x2:=hcell 2 (by decide)
  have x4:=hcell 4 (by decide)
  have x5:=hcell 5 (by decide)
  have x6:=hcell 6 (by decide)
  have x7:=hcell 7 (by decide)
  simp only [entCells,List.getElem?_cons_zero,List.getElem?_cons_succ] at x2 x4 x5 x6 x7
  rw [hlen] at hcc ⊢
  obtain ⟨A6,q6,hv6, -, -⟩:=Row.slice hld
  rw [hv6] at x6 hld
  generalize T.length=q at *
  have hq0:(0:Int)<((q+1:Nat):Int):=by omega
  have hq1:((q+1:Nat):Int)-1=(q:Int):=by omega
  have hq2:(q:Int)<((q+1:Nat):Int):=by omega
  have hq3:(0:Int)≤(q:Int):=by omega
  have hq4:wrap64 (q:Int)=q:=by unfold wrap64;omega
  clear h0 htk hlen hgx hcell
  by_cases hc:x.came
  ·obtain ⟨e1,e2⟩:=takenB_yes hlast hc ms m
   have hr:=HR.out.1
   have hms:=HR.out.2
   rw [e1] at hr
   rw [e2] at hms
   subst hr hms
   obtain ⟨hlw,hmw⟩:=HV.out.2.2.2.2.1 x hlast hc
   rw [hlw] at x6 hld
   have k2:(x.kind:Int)=2:=by have:=hc.1;omega
   have k5:x.err=0:=hc.2.1
   have k4: ¬(x.fin:Int)=0:=by have:=hc.2.2;omega
   have HRd:=Lib.hid (mRead_any m (.slice A6 m.words.length q6) w2 (RowI.read hld) hmw)
   have hgl:g<w2.heap.size:=World.block_lt_of_cell? w2 _ x7
   have hgo:w.heap.size≤g:=HD3.out.2 g rfl
   clear hlw hmw hld hc hlast e1 e2 HNo
   go_wp2_with fail
   refine HRd.out.mono ?_
   rintro e w4 ⟨bv,rfl,hR4,hO4,hB4⟩
   obtain ⟨A5,q5,hbv, -, -⟩:=Row.slice hR4
   subst hbv
   have hB24:=HB.out.trans (hB4.mono HB.out.size)
   obtain ⟨w5,hw5⟩:∃w5,w5=w4.alloc (.cells #[.int .i64 m.kind, .int .i64 m.dst, .int .i64 m.src, .slice A5 m.body.length q5] 43):=⟨_,rfl⟩
   have hb5:Below w4.heap.size w4 w5:=by rw [hw5];exact (Below.refl _ _).alloc (Nat.le_refl _) _
   have hk5:Blk w5 w4.heap.size 43 [.int .i64 m.kind, .int .i64 m.dst, .int .i64 m.src, .slice A5 m.body.length q5]:=by rw [hw5];exact Blk.new _ _ _
   have y0:=hk5.cell 0
   have y1:=hk5.cell 1
   have y2:=hk5.cell 2
   have y3:=hk5.cell 3
   simp only [List.getElem?_cons_zero,List.getElem?_cons_succ] at y0 y1 y2 y3
   have hB5:=hB24.trans (hb5.mono hB24.size)
   obtain ⟨A7,q7,w7,p1,p2,p3,p4⟩:=(HV.out.2.2.1.fresh hB5).push hn (Row.below hR4 hb5)
   have hwb:=HB.out.size
   have hw5s:=hB5.size
   obtain ⟨hbd,hct⟩:=came_yes (b':=(b.do_ ⟨5,1,0,x.handle, []⟩).1) HV.out.2.2.2.2.2.2.2 HV.out.2.2.2.2.2.2.1 HV.out.2.2.1 HV.out.2.2.2.1 HV.out.2.2.2.2.2.1 hB5 p2 p3 (fun k q=>Nat.le_trans hwb (hO4 k q)) (fun k q=>(p4 k q).imp id (fun z=>Nat.le_trans hw5s z))
   have hg4:=hB4.size
   have hg5:=hb5.size
   have x7':w7.cell? ⟨g,off+q*8+7,none⟩=some (.int .i64 x.handle):=by
    rw [p3.cell (by show g<w5.heap.size;omega) (by intro z;have:=HV.out.2.2.1.lt g (.inl z);omega),hb5.cell (by show g<w4.heap.size;omega),hB4.cell (by exact hgl)]
    exact x7
   have hDo:=fine_do (x:=⟨5,1,0,x.handle, []⟩) HV.out.1 hN (by simp) (nilLoad _ _ _) hbd
   have HDo:=Lib.hid hDo
   have HP:=Lib.hid p1
   have HCT:=Lib.hid hct
   have HW5:=Lib.hid hw5
   clear hDo p1 p2 p3 p4 hct hw5 hbd hB24 hB5 hb5 hk5 hR4 hO4 hB4 hg4 hg5 hwb hw5s hgl hgo x2 x4 x5 x6 x7
   go_upto_region 5 with fail
   rw [←HW5.out]
   go_wp2_with (at_builtin;refine app_run_list rfl _ _ 46 46 rfl rfl rfl rfl HP.out ?_)
   refine HDo.out.mono ?_
   rintro e w8 ⟨rfl,hT⟩
   have HT:=Lib.hid hT
   clear hT
   go_wp2_with fail
   go_ret
   exact ⟨_,rfl,_,HCT.out w8 HT.out⟩
  ·obtain ⟨e1,e2⟩:=takenB_no hlast hc ms m
   have hr:=HR.out.1
   have hms:=HR.out.2
   rw [e1] at hr
   rw [e2] at hms
   subst hr hms
   have HX:=Lib.hid (And.intro hc hlast)
   clear e1 e2 hc hlast
   by_cases k2:(x.kind:Int)=2
   ·by_cases k5:x.err=0
    ·by_cases k4:(x.fin:Int)=0
     ·go_wp2_with fail
      refine HNo.out.mono ?_
      rintro e w3 ⟨rfl,hT⟩
      have HT:=Lib.hid hT
      clear hT
      go_wp2_with fail
      go_ret
      exact ⟨_,rfl,bl,came_no HV.out.2.2.2.2.2.2.1 HV.out.2.2.1 HV.out.2.2.2.1 HB.out HT.out⟩
     ·exact absurd ⟨by omega,k5,by omega⟩ HX.out.1
    ·go_wp2_with fail
     refine HNo.out.mono ?_
     rintro e w3 ⟨rfl,hT⟩
     have HT:=Lib.hid hT
     clear hT
     go_wp2_with fail
     go_ret
     exact ⟨_,rfl,bl,came_no HV.out.2.2.2.2.2.2.1 HV.out.2.2.1 HV.out.2.2.2.1 HB.out HT.out⟩
   ·go_wp2_with fail
    refine HNo.out.mono ?_
    rintro e w3 ⟨rfl,hT⟩
    have HT:=Lib.hid hT
    clear hT
    go_wp2_with fail
    go_ret
    exact ⟨_,rfl,bl,came_no HV.out.2.2.2.2.2.2.1 HV.out.2.2.1 HV.out.2.2.2.1 HB.out HT.out⟩
theorem two_msgs (k d s:Int) (v1 v2:Value) (w:World):∃w1,w1=(w.alloc (.cells #[.int .i64 k, .int .i64 d, .int .i64 s,v1] 54)).alloc (.cells #[.int .i64 k, .int .i64 d, .int .i64 s,v2] 54)∧Below w.heap.size w w1∧Blk w1 w.heap.size 54 [.int .i64 k, .int .i64 d, .int .i64 s,v1]∧Blk w1 (w.heap.size+1) 54 [.int .i64 k, .int .i64 d, .int .i64 s,v2]:=by
 refine ⟨_,rfl,((Below.refl _ _).alloc (Nat.le_refl _) _).alloc (by simp) _,(Blk.new w 54 [.int .i64 k, .int .i64 d, .int .i64 s,v1]).alloc _, ?_⟩
 have:=Blk.new (w.alloc (.cells #[.int .i64 k, .int .i64 d, .int .i64 s,v1] 54)) 54 [.int .i64 k, .int .i64 d, .int .i64 s,v2]
 have e:(w.alloc (.cells #[.int .i64 k, .int .i64 d, .int .i64 s,v1] 54)).heap.size=w.heap.size+1:=by simp
 rw [e] at this
 exact this
set_option maxHeartbeats 2000000 in
set_option maxRecDepth 100000 in
theorem mSame_any (m:Msg) (v1 v2:Value) (w:World) (hl:m.body.length≤1000) (h1:ReadI w v1 m.body) (h2:ReadI w v2 m.body):
  Calls Tryz.prog 16 #[.agg #[.int .i64 m.kind, .int .i64 m.dst, .int .i64 m.src,v1], .agg #[.int .i64 m.kind, .int .i64 m.dst, .int .i64 m.src,v2]] w fun e w'=>e= .returned (.bool true)∧Below w.heap.size w w':=by
 obtain ⟨A1,c1,hv1⟩:=h1.slice
 obtain ⟨A2,c2,hv2⟩:=h2.slice
 subst hv1 hv2
 obtain ⟨w1,hw1,hb,hka,hkb⟩:=two_msgs m.kind m.dst m.src (.slice A1 m.body.length c1) (.slice A2 m.body.length c2) w
 have r1:=h1.fresh hb
 have r2:=h2.fresh hb
 have y0:=hka.cell 0
 have y1:=hka.cell 1
 have y2:=hka.cell 2
 have y3:=hka.cell 3
 have z0:=hkb.cell 0
 have z1:=hkb.cell 1
 have z2:=hkb.cell 2
 have z3:=hkb.cell 3
 simp only [List.getElem?_cons_zero,List.getElem?_cons_succ] at y0 y1 y2 y3 z0 z1 z2 z3
 have HW:=Lib.hid hw1
 have HB:=Lib.hid hb
 have HR:=Lib.hid (And.intro r1 (And.intro r2 (And.intro hka hkb)))
 clear hw1 hb hka hkb h1 h2 r1 r2
 go_enter Tryz.func16,Tryz.ntmps16
 go_upto_region 1 with fail
 rw [←HW.out]
 go_wp2_with fail
 clear y0 y1 y2 y3 z0 z1 z2 z3
 go_loopw [5] (fun j u=>∃k:Nat,k≤m.body.length∧j= .int .i64 k∧Below w1.heap.size w1 u)
  (fun j _=>m.body.length-(intOf j).toNat)
 case atStart=>exact ⟨0,by omega,rfl,Below.refl _ _⟩
 case round=>
  obtain ⟨k,hk,rfl,hbu⟩:=hrel
  have HBU:=Lib.hid hbu
  have q1:=HR.out.1.fresh hbu
  have q2:=HR.out.2.1.fresh hbu
  have ka:=HR.out.2.2.1.keep (Keep.ofFresh hbu (B:=0) (F:=fun _=>False)) (fun q=>q)
  have kb:=HR.out.2.2.2.keep (Keep.ofFresh hbu (B:=0) (F:=fun _=>False)) (fun q=>q)
  have y3:=ka.cell 3
  have z3:=kb.cell 3
  simp only [List.getElem?_cons_zero,List.getElem?_cons_succ] at y3 z3
  clear hbu ka kb
  by_cases hkl:k<m.body.length
  ·obtain ⟨g1,o1,e1,he1,hc1,hcell1⟩:=q1.at_ k hkl
   obtain ⟨g2,o2,e2,he2,hc2,hcell2⟩:=q2.at_ k hkl
   injection he1 with a1 a2 a3
   injection he2 with b1 b2 b3
   subst a1 a3 b1 b3
   have hk0:(0:Int)≤(k:Int):=by omega
   have hk1:(k:Int)<(m.body.length:Int):=by omega
   generalize m.body.getD k 0=y at *
   clear q1 q2
   go_upto_region 6 with fail
   go_quiet (fail)
   go_wp2_with fail
   go_roundw
   case rel=>
    exact ⟨k+1,by omega,by go_num,belowN HBU.out _⟩
   case measure=>simp [intOf];omega
  ·have hkn:k=m.body.length:=by omega
   subst hkn
   clear q1 q2
   go_wp2_with fail
   go_ret
   exact ⟨rfl,HB.out.trans (HBU.out.mono HB.out.size)⟩
structure MsgsR (w:World) (v:Value) (d:List Msg) (bl:Nat→Value):Prop where
 row:d= []∧(∃A c,v= .slice A 0 c)∨∃g off c,v= .slice (some ⟨g,off,none⟩) d.length c∧g<w.heap.size∧d.length≤c∧∀j r,j<d.length→r<4→w.cell? ⟨g,off+j*4+r,none⟩=(msgCells (d.getD j Msg.none_) (bl j))[r]?
 body:∀j,j<d.length→ReadI w (bl j) (d.getD j Msg.none_).body
namespace MsgsR
variable {w w':World} {v:Value} {d:List Msg} {bl:Nat→Value}
theorem fresh (h:MsgsR w v d bl) (hb:Below w.heap.size w w'):MsgsR w' v d bl:=by
 refine ⟨?_,fun j hj=>(h.body j hj).fresh hb⟩
 rcases h.row with h|⟨g,off,c,hv,hg,hc,hx⟩
 ·exact .inl h
 ·exact .inr ⟨g,off,c,hv,Nat.lt_of_lt_of_le hg hb.size,hc,fun j r hj hr=>(hb.cell (p:=⟨g,off+j*4+r,none⟩) hg).trans (hx j r hj hr)⟩
theorem at_ (h:MsgsR w v d bl) {j:Nat} (hj:j<d.length):∃g off c,v= .slice (some ⟨g,off,none⟩) d.length c∧d.length≤c∧∀r,r<4→w.cell? ⟨g,off+j*4+r,none⟩=(msgCells (d.getD j Msg.none_) (bl j))[r]? := by
 rcases h.row with ⟨rfl,_⟩|⟨g,off,c,hv,hg,hc,hx⟩
 ·simp at hj
 ·exact ⟨g,off,c,hv,hc,fun r hr=>hx j r hj hr⟩
theorem slice (h:MsgsR w v d bl):∃A c,v= .slice A d.length c:=by
 rcases h.row with ⟨rfl,A,c,hv⟩|⟨g,off,c,hv,_⟩
 ·exact ⟨A,c,hv⟩
 ·exact ⟨_,c,hv⟩
end MsgsR
theorem MsgsAt.read {w u:World} {v:Value} {d:List Msg} {bl:Nat→Value} (h:MsgsAt w u v d bl):MsgsR u v d bl:=by
 refine ⟨?_,fun j hj=>RowI.read (h.bodies j hj)⟩
 by_cases h0:0<d.length
 ·obtain ⟨g,c,hv,hc,⟨cur,hcur⟩,hcell⟩:=h.row.cells h0
  refine .inr ⟨g,0,c,hv,hcur.lt,hc,fun j r hj hr=> ?_⟩
  have:=(hcell (j*4+r) (by omega)).1
  rw [Nat.add_assoc,Nat.zero_add,this,msgsCells_get _ _ hj hr]
 ·obtain ⟨A,c,hv⟩:=h.row.slice
  have:d.length=0:=by omega
  exact .inl ⟨List.eq_nil_of_length_eq_zero this,A,c,by rw [hv,this]⟩
def Mv.none_:Mv:=⟨0,false⟩
def MovesR (w:World) (v:Value) (d:List Mv):Prop:=
 d= []∧(∃A c,v= .slice A 0 c)∨∃g off c,v= .slice (some ⟨g,off,none⟩) d.length c∧g<w.heap.size∧d.length≤c∧∀j,j<d.length→w.cell? ⟨g,off+j*2,none⟩=some (.int .i64 (d.getD j Mv.none_).core)∧w.cell? ⟨g,off+j*2+1,none⟩=some (.bool (d.getD j Mv.none_).drain)
namespace MovesR
variable {w w':World} {v:Value} {d:List Mv}
theorem fresh (h:MovesR w v d) (hb:Below w.heap.size w w'):MovesR w' v d:=by
 rcases h with h|⟨g,off,c,hv,hg,hc,hx⟩
 ·exact .inl h
 ·exact .inr ⟨g,off,c,hv,Nat.lt_of_lt_of_le hg hb.size,hc,fun j hj=>⟨(hb.cell (p:=⟨g,off+j*2,none⟩) hg).trans (hx j hj).1,(hb.cell (p:=⟨g,off+j*2+1,none⟩) hg).trans (hx j hj).2⟩⟩
theorem at_ (h:MovesR w v d) {j:Nat} (hj:j<d.length):∃g off c,v= .slice (some ⟨g,off,none⟩) d.length c∧d.length≤c∧w.cell? ⟨g,off+j*2,none⟩=some (.int .i64 (d.getD j Mv.none_).core)∧w.cell? ⟨g,off+j*2+1,none⟩=some (.bool (d.getD j Mv.none_).drain):=by
 rcases h with ⟨rfl,_⟩|⟨g,off,c,hv,hg,hc,hx⟩
 ·simp at hj
 ·exact ⟨g,off,c,hv,hc,(hx j hj).1,(hx j hj).2⟩
theorem slice (h:MovesR w v d):∃A c,v= .slice A d.length c:=by
 rcases h with ⟨rfl,A,c,hv⟩|⟨g,off,c,hv,_⟩
 ·exact ⟨A,c,hv⟩
 ·exact ⟨_,c,hv⟩
end MovesR
structure HL (w u:World) (B:Nat) (Y:Lay) (b:Bd) (vW:Value) (vs:List Value) (want:Loads) (vC:Value) (ms:List Msg) (bl:Nat→Value):Prop where
 blw:Below w.heap.size w u
 brd:BdAt u Y b
 bd:Y.bd=B
 ge:∀k,BdF Y b k→w.heap.size≤k
 wants:LoadsAt u vW vs want
 wown:∀k,(vW.ownBlock=some k∨∃j,j<want.length∧(vs.getD j nilS).ownBlock=some k)→w.heap.size≤k∧ ¬BdF Y b k
 came:MsgsAt w u vC ms bl
 cown:Apart Y b vC ms bl
theorem LoadsAt.keep {F:Nat→Prop} {u u':World} {v:Value} {vs:List Value} {ls:Loads} (h:LoadsAt u v vs ls) (hk:Keep F u u') (hF:∀k,(v.ownBlock=some k∨∃j,j<ls.length∧(vs.getD j nilS).ownBlock=some k)→ ¬F k):LoadsAt u' v vs ls:=
 ⟨h.row.move (fun k q=>hk.block k (h.row.lt k q) (hF k (.inl q))),fun j hj=>Row.keep (h.load j hj) hk (fun k q=>hF k (.inr ⟨j,hj,q⟩))⟩
theorem LoadsAt.under {u:World} {v:Value} {vs:List Value} {ls:Loads} (h:LoadsAt u v vs ls) (k:Nat) (q:v.ownBlock=some k∨∃j,j<ls.length∧(vs.getD j nilS).ownBlock=some k):k<u.heap.size:=by
 rcases q with q|⟨j,hj,q⟩
 ·exact h.row.lt k q
 ·exact Row.lt (h.load j hj) k q
namespace HL
variable {w u u':World} {B:Nat} {Y:Lay} {b b':Bd} {vW vC vC':Value} {vs:List Value} {want:Loads} {ms ms':List Msg} {bl bl':Nat→Value}
theorem fresh (h:HL w u B Y b vW vs want vC ms bl) (hb:Below u.heap.size u u'):HL w u' B Y b vW vs want vC ms bl:=
 ⟨h.blw.trans (hb.mono h.blw.size),h.brd.fresh hb,h.bd,h.ge,h.wants.fresh hb,h.wown,h.came.fresh hb,h.cown⟩
theorem do_ (h:HL w u B Y b vW vs want vC ms bl) (hT:BdTo u Y b b' u'):∃Y',HL w u' B Y' b' vW vs want vC ms bl:=by
 obtain ⟨Y',y,hY',hk,hn⟩:=hT
 have hs:=h.blw.size
 refine ⟨Y',h.blw.trans (Keep.toBelow (hk.mono fun k _ q=>h.ge k q) hs),hY',y.1.trans h.bd,fun k q=> ?_,h.wants.keep hk (fun k q=>(h.wown k q).2),fun k q=>⟨(h.wown k q).1,fun r=> ?_⟩,h.came.keep hk h.cown h.ge,fun k q r=> ?_⟩
 ·rcases hn k q with e|e
  ·exact h.ge k e
  ·omega
 ·rcases hn k r with e|e
  ·exact (h.wown k q).2 e
  ·have:=h.wants.under k q;omega
 ·rcases hn k r with e|e
  ·exact h.cown k q e
  ·have:=h.came.lt k q;omega
theorem apart (h:HL w u B Y b vW vs want vC ms bl) (k:Nat) (q:vW.ownBlock=some k∨∃j,j<want.length∧(vs.getD j nilS).ownBlock=some k):vC.ownBlock≠some k:=by
 intro e
 obtain ⟨cur,hcur⟩:=h.came.row.typed k e
 rcases q with q|⟨j,hj,q⟩
 ·exact h.wants.row.ne hcur (by decide) q
 ·exact Row.ne (h.wants.load j hj) hcur (by decide) q
theorem take (h:HL w u B Y b vW vs want vC ms bl) (hT:CameTo w u Y b b' vC vC' ms' bl' u'):∃Y',HL w u' B Y' b' vW vs want vC' ms' bl':=by
 obtain ⟨Y',y,hY',hk,hn,hM,hA⟩:=hT
 have hs:=h.blw.size
 have hF:∀k,(vW.ownBlock=some k∨∃j,j<want.length∧(vs.getD j nilS).ownBlock=some k)→ ¬(BdF Y b k∨vC.ownBlock=some k):=fun k q r=>r.elim (h.wown k q).2 (h.apart k q)
 refine ⟨Y',hM.b,hY',y.1.trans h.bd,fun k q=> ?_,h.wants.keep hk hF,fun k q=>⟨(h.wown k q).1,fun r=> ?_⟩,hM,hA⟩
 ·rcases hn k q with e|e
  ·exact h.ge k e
  ·omega
 ·rcases hn k r with e|e
  ·exact (h.wown k q).2 e
  ·have:=h.wants.under k q;omega
theorem loadOk (h:HL w u B Y b vW vs want vC ms bl) {k:Nat} (hk:k<want.length) (hl:(want.getD k []).length≤1000):LoadOk u Y b (vs.getD k nilS) (want.getD k []):=
 ⟨RowI.read (h.wants.load k hk),hl,fun q e z=>⟨Row.lt (h.wants.load k hk) q e,(h.wown q (.inr ⟨k,hk,e⟩)).2⟩⟩
theorem add {A:Option Addr} {p q:Nat} {l:List Int} (h:HL w u B Y b vW vs want vC ms bl) (hn:want.length≤1000) (hl:RowI u (.slice A p q) l) (hlo:∀k,(Value.slice A p q).ownBlock=some k→w.heap.size≤k∧ ¬BdF Y b k) (h0:vC=nilS) (hm:ms= []) (h2:2≤w.heap.size):
  ∃A7 q7 w7,(Builtin.append_ #[41,41] 41 #[vW, .slice (some ⟨u.heap.size,0,none⟩) 1 1]).run Tryz.prog (u.alloc (.cells #[.slice A p q] 31))= .ok (.slice A7 (want.length+1) q7) w7∧
   HL w w7 B Y b (.slice A7 (want.length+1) q7) (vs ++ [.slice A p q]) (want ++ [l]) vC ms bl∧Keep (fun k=>vW.ownBlock=some k) u w7:=by
 subst h0 hm
 obtain ⟨A7,q7,w7,r1,r2,r3,r4⟩:=h.wants.add hn hl
 have hs:=h.blw.size
 have hlen:=h.wants.len
 have hg0:=h.brd.lt
 refine ⟨A7,q7,w7,r1,⟨h.blw.trans (Keep.toBelow (r3.mono fun k _ q=>(h.wown k (.inl q)).1) hs),h.brd.keep r3 (fun k q r=>(h.wown k (.inl r)).2 q) (fun r=>by have:=(h.wown _ (.inl r)).1;omega) (fun r=>by have:=(h.wown _ (.inl r)).1;omega),h.bd,h.ge,r2,fun k q=> ?_,⟨h.blw.trans (Keep.toBelow (r3.mono fun k _ q=>(h.wown k (.inl q)).1) hs),⟨rfl, .inl ⟨rfl,rfl⟩⟩,fun j hj=>by simp at hj,fun k q=>by simp [nilS,Value.ownBlock] at q⟩,h.cown⟩,r3⟩
 rcases q with q|⟨j,hj,q⟩
 ·rcases r4 k q with e|e
  ·exact h.wown k (.inl e)
  ·exact ⟨by omega,fun r=>by have:=hg0 k r;omega⟩
 ·rw [List.length_append] at hj
  have hj:j<want.length+1:=by simpa using hj
  by_cases e:j=want.length
  ·subst e
   rw [←hlen,getD_last] at q
   exact hlo k q
  ·rw [getD_push _ _ _ _ (by omega)] at q
   exact h.wown k (.inr ⟨j,by omega,q⟩)
end HL
def rights (l:List Msg):List Msg:=l.filter fun m=>decide (m.wrong=0)
def wantOf (l:List Msg):Loads:=(rights l).map Msg.words
theorem words_len (m:Msg):m.words.length=m.body.length+3:=by unfold Msg.words;simp
theorem isWord_iff (x:Int):isWord x=true ↔ 0≤x∧x<65536:=by
 unfold isWord
 rw [beq_iff_eq]
 omega
theorem words_ok {m:Msg} (h:m.wrong=0):m.words.length≤8∧wordsOk m.words=true:=by
 obtain ⟨h1,h2,h3,h4,h5,h6⟩:=right_m h
 rw [words_len]
 refine ⟨by omega, ?_⟩
 rw [isWord_iff] at h4 h5
 unfold wordsOk at h6 ⊢
 unfold Msg.words
 simp only [List.all_append,List.all_cons,List.all_nil,Bool.and_true,Bool.and_eq_true,beq_iff_eq] at h6 ⊢
 exact ⟨⟨by omega,by omega,by omega⟩,h6⟩
theorem want_ok (l:List Msg):∀x∈wantOf l,x.length≤8∧wordsOk x=true:=by
 intro x hx
 unfold wantOf at hx
 obtain ⟨m,hm,rfl⟩:=List.mem_map.1 hx
 exact words_ok (by simpa using (List.mem_filter.1 hm).2)
theorem want_len (l:List Msg):(wantOf l).length=(rights l).length:=List.length_map _
theorem rights_len (l:List Msg):(rights l).length≤l.length:=List.length_filter_le _ _
theorem want_getD (l:List Msg) {k:Nat} (hk:k<(rights l).length):(wantOf l).getD k []=((rights l).getD k Msg.none_).words∧((rights l).getD k Msg.none_).wrong=0:=by
 have e:(rights l).getD k Msg.none_=(rights l)[k]:=by rw [List.getD_eq_getElem?_getD,List.getElem?_eq_getElem hk,Option.getD_some]
 refine ⟨?_, ?_⟩
 ·rw [e]
  unfold wantOf
  rw [List.getD_eq_getElem?_getD,List.getElem?_map,List.getElem?_eq_getElem hk]
  rfl
 ·rw [e]
  have:=(List.mem_filter.1 (List.getElem_mem (l:=rights l) hk)).2
  simpa using this
theorem Fine.more {b:Bd} {N M:Nat} (h:Fine b N) (hM:N≤M):Fine b M:=⟨h.good,Nat.le_trans h.now hM,h.dia,h.right⟩
structure HFine (want:Loads) (n:Nat) (s:HS) (k:Nat):Prop where
 fine:Fine s.b k
 n_:s.b.n=n
 shrt:Shrt s.b
 next:s.next≤want.length
theorem HFine.do_ {want:Loads} {n k:Nat} {s:HS} (h:HFine want n s k) (hk:k<3000) (x:Ev) (hx:x.load.length≤8) (nx cm:Nat) (hn:nx≤want.length):HFine want n ⟨(s.b.do_ x).1,nx,cm⟩ (k+1):=by
 obtain ⟨f1,f2⟩:=h.fine.do_ (by omega) x
 obtain ⟨L,hG⟩:=h.fine.good
 have:=h.fine.now
 exact ⟨f1,f2.trans h.n_,hG.shrt (by omega) h.shrt x,hn⟩
theorem HFine.same {want:Loads} {n k:Nat} {s:HS} (h:HFine want n s k) (nx cm:Nat) (hn:nx≤want.length):HFine want n ⟨s.b,nx,cm⟩ (k+1):=⟨h.fine.more (by omega),h.n_,h.shrt,hn⟩
theorem HFine.step {want:Loads} (h8:∀l∈want,l.length≤8∧wordsOk l=true) {n k:Nat} {s:HS} (h:HFine want n s k) (hk:k<3000) (x:Mv):HFine want n (hstep want s x) (k+1):=by
 have hw:(want.getD s.next []).length≤8:=by
  rw [List.getD_eq_getElem?_getD]
  cases hg:want[s.next]? with
  | none=>simp
  | some e=>exact (h8 e (List.mem_of_getElem? hg)).1
 have hn:=h.next
 unfold hstep
 split
 ·exact h.same _ _ hn
 split
 ·exact h.do_ hk _ (by simp) _ _ hn
 split
 ·exact h.do_ hk _ (by simp) _ _ hn
 split
 ·rename_i hc
  unfold begunB
  split
  ·exact h.same _ _ (by omega)
  ·exact h.do_ hk _ hw _ _ (by omega)
 split
 ·unfold takenB
  split
  ·split
   ·exact h.do_ hk _ (by simp) _ _ hn
   ·exact h.do_ hk _ (by simp) _ _ hn
  ·exact h.do_ hk _ (by simp) _ _ hn
 ·exact h.same _ _ hn
theorem HFine.run {want:Loads} (h8:∀l∈want,l.length≤8∧wordsOk l=true) {n r m:Nat} (hR:rightB n r m=true) (moves:List Mv):∀k,k≤3000→HFine want n (hrun want moves ⟨Bd.new n r m,0,0⟩ k) k:=by
 intro k
 induction k with
 | zero=>intro _;exact ⟨Fine.first hR,rfl,fun e he=>by simp [Bd.new,hrun] at he,Nat.zero_le _⟩
 | succ k ih=>intro hk;exact (ih (by omega)).step h8 (by omega) _
theorem want_take (l:List Msg) (k:Nat) (hk:k<l.length):wantOf (l.take (k+1))=if (l.getD k Msg.none_).wrong=0 then wantOf (l.take k) ++ [(l.getD k Msg.none_).words] else wantOf (l.take k):=by
 have e:l.getD k Msg.none_=l[k]:=by rw [List.getD_eq_getElem?_getD,List.getElem?_eq_getElem hk,Option.getD_some]
 rw [e]
 unfold wantOf rights
 rw [List.take_succ_eq_append_getElem hk,List.filter_append]
 by_cases h:l[k].wrong=0
 ·rw [if_pos h];simp [h]
 ·rw [if_neg h];simp [h]
theorem want_take_len (l:List Msg) (k:Nat):(wantOf (l.take k)).length≤l.length:=by
 rw [want_len]
 refine Nat.le_trans (rights_len _) ?_
 rw [List.length_take]
 omega
theorem HL.first {w u:World} {Y:Lay} {b:Bd} (hb:Below w.heap.size w u) (hY:BdAt u Y b) (hge:∀k,BdF Y b k→w.heap.size≤k):HL w u Y.bd Y b nilS [] [] nilS [] (fun _=>nilS):=
 ⟨hb,hY,rfl,hge, .nil _,fun k q=>by rcases q with q|⟨j,hj, -⟩;exact absurd q (nil_own k);simp at hj,⟨hb,⟨rfl, .inl ⟨rfl,rfl⟩⟩,fun j hj=>by simp at hj,fun k q=>absurd q (nil_own k)⟩,fun k q=>by rcases q with q|⟨j,hj, -⟩;exact absurd q (nil_own k);simp at hj⟩
theorem rights_at (l:List Msg) (k:Nat) (hk:k<l.length):((l.getD k Msg.none_).wrong=0→(rights (l.take k)).length<(rights l).length∧(rights l).getD (rights (l.take k)).length Msg.none_=l.getD k Msg.none_∧(rights (l.take (k+1))).length=(rights (l.take k)).length+1)∧
  ((l.getD k Msg.none_).wrong≠0→rights (l.take (k+1))=rights (l.take k)):=by
 have e:l.getD k Msg.none_=l[k]:=by rw [List.getD_eq_getElem?_getD,List.getElem?_eq_getElem hk,Option.getD_some]
 rw [e]
 have h1:rights (l.take (k+1))=if l[k].wrong=0 then rights (l.take k) ++ [l[k]] else rights (l.take k):=by
  unfold rights
  rw [List.take_succ_eq_append_getElem hk,List.filter_append]
  by_cases h:l[k].wrong=0
  ·rw [if_pos h];simp [h]
  ·rw [if_neg h];simp [h]
 have h2:rights l=rights (l.take (k+1))++rights (l.drop (k+1)):=by
  unfold rights
  rw [←List.filter_append,List.take_append_drop]
 refine ⟨fun h=> ?_,fun h=> ?_⟩
 ·rw [if_pos h] at h1
  rw [h2,h1]
  refine ⟨by simp, ?_,by simp⟩
  rw [List.append_assoc,List.getD_eq_getElem?_getD,List.getElem?_append_right (Nat.le_refl _)]
  simp
 ·rw [if_neg h] at h1
  exact h1
set_option maxHeartbeats 2000000 in
set_option maxRecDepth 100000 in
theorem head_main (n r m:Nat) (hR:rightB n r m=true) (hn4:n≤4) (hr8:r≤8) (v mv:Value) (l:List Msg) (bl:Nat→Value) (moves:List Mv) (w:World) (hg:Glob w) (h:MsgsR w v l bl) (hm:MovesR w mv moves) (hl:l.length≤12) (hmv:moves.length≤200):
  Calls Tryz.prog 4 #[plotV n r m,v,mv] w fun e w'=>e= .returned (.bool true)∧Below w.heap.size w w':=by
 have hbig:2≤w.heap.size:=by
  have h3:=hg.tab 0 (by decide)
  have:=World.block_lt_of_cell? w _ h3
  exact this
 obtain ⟨w1,hw1,hb1,hk1,hg1,hz1⟩:=plot_box n r m w hg
 have hN:=bNew_any n r m hR w1 hg1
 obtain ⟨hn0,hn1,⟨hr0,hr1⟩,hrb,hm0,hm1⟩:=right_of hR
 have p0:=hk1.cell 0
 have p1:=hk1.cell 1
 have p2:=hk1.cell 2
 simp only [List.getElem?_cons_zero,List.getElem?_cons_succ] at p0 p1 p2
 obtain ⟨A,cp,hv⟩:=h.slice
 subst hv
 obtain ⟨Am,cm,hvm⟩:=hm.slice
 subst hvm
 have HW:=Lib.hid hw1
 have HN:=Lib.hid hN
 have HA:=Lib.hid (And.intro h hm)
 have HK:=Lib.hid (And.intro hb1 (And.intro hk1 (And.intro hg1 (And.intro hz1 hbig))))
 have HRT:=Lib.hid hR
 have hl': ¬(12:Int)<(l.length:Int):=by omega
 have hm': ¬(200:Int)<(moves.length:Int):=by omega
 have hn': ¬(4:Int)<(n:Int):=by omega
 have hr': ¬(8:Int)<(r:Int):=by omega
 clear hw1 hN h hm hb1 hk1 hg1 hz1 hbig hR hg hrb hm0 hm1 hr0 hr1 hn1
 unfold plotV at *
 go_enter Tryz.func4,Tryz.ntmps4
 go_wp2_with fail
 rw [←HW.out]
 go_wp2_with fail
 refine HN.out.mono ?_
 rintro e w2 ⟨Y,rfl,hY,hge,hb2⟩
 have hk2:=HK.out.2.1.keep (Keep.ofFresh hb2 (B:=0) (F:=fun _=>False)) (fun q=>q)
 have q0:w2.cell? ⟨w.heap.size,0,none⟩=some (.int .i64 (n:Int)):=hk2.cell 0
 have q1:w2.cell? ⟨w.heap.size,1,none⟩=some (.int .i64 (r:Int)):=hk2.cell 1
 have hs1:=HK.out.1.size
 have HB2:=Lib.hid (HL.first (HK.out.1.trans (hb2.mono hs1)) hY (fun k q=>Nat.le_trans hs1 (hge k q)))
 clear hk2 hY hge hb2 p0 p1 p2 HN hs1
 obtain ⟨bd,hbd⟩:∃bd,bd=Y.bd:=⟨_,rfl⟩
 rw [←hbd] at HB2
 rw [←hbd]
 clear hbd
 go_wp2_with fail
 go_loopw [9,55] (fun lv jv u=>∃k:Nat,k≤l.length∧jv= .int .i64 k∧∃vs,HL w u bd Y (Bd.new n r m) lv vs (wantOf (l.take k)) nilS [] (fun _=>nilS)∧∀j,j<k→(l.getD j Msg.none_).body.length≤50)
  (fun _ jv _=>l.length-(intOf jv).toNat)
 case atStart=>exact ⟨0,by omega,rfl, [],HB2.out,fun j hj=>by omega⟩
 case round=>
  obtain ⟨k,hk,rfl,vs,hP,h50s⟩:=hrel
  by_cases hin:k<l.length
  ·obtain ⟨g,off,c',hv,hc,hx⟩:=(HA.out.1.fresh hP.blw).at_ hin
   injection hv with hA hzz hcc
   clear hzz
   subst hA hcc
   have hbr:=(HA.out.1.fresh hP.blw).body k hin
   have hst:=want_take l k hin
   have hwl:=want_take_len l k
   obtain ⟨A2,c2,hlv⟩:=hbr.slice
   generalize hxe:l.getD k Msg.none_=x at *
   have HXE:=Lib.hid (And.intro hxe h50s)
   clear hxe h50s
   generalize bl k=lv2 at *
   subst hlv
   have x0:=hx 0 (by omega)
   have x1:=hx 1 (by omega)
   have x2:=hx 2 (by omega)
   have x3:=hx 3 (by omega)
   simp only [msgCells,List.getElem?_cons_zero,List.getElem?_cons_succ,Nat.add_zero] at x0 x1 x2 x3
   have hi0:(0:Int)≤(k:Int):=by omega
   have hi1:(k:Int)<(l.length:Int):=by omega
   obtain ⟨wB,hwB⟩:∃wB,wB=wr.alloc (.cells #[.int .i64 x.kind, .int .i64 x.dst, .int .i64 x.src, .slice A2 x.body.length c2] 43):=⟨_,rfl⟩
   have hba:Below wr.heap.size wr wB:=by rw [hwB];exact (Below.refl _ _).alloc (Nat.le_refl _) _
   have hkB:Blk wB wr.heap.size 43 [.int .i64 x.kind, .int .i64 x.dst, .int .i64 x.src, .slice A2 x.body.length c2]:=by rw [hwB];exact Blk.new wr 43 _
   have hPB:=hP.fresh hba
   have y0:=hkB.cell 0
   have y1:=hkB.cell 1
   have y2:=hkB.cell 2
   have y3:=hkB.cell 3
   simp only [List.getElem?_cons_zero,List.getElem?_cons_succ] at y0 y1 y2 y3
   have HWB:=Lib.hid hwB
   have HPB:=Lib.hid (And.intro hPB (hbr.fresh hba))
   have HST:=Lib.hid (And.intro hst hwl)
   clear hx hba hkB hPB hst hwB hP hbr hwl
   go_upto_region 8 with fail
   rw [←HWB.out]
   clear x0 x1 x2 x3
   by_cases h50:(50:Int)<(x.body.length:Int)
   ·have hAl:=alive_any wB HPB.out.1.brd.glob
    have HAl:=Lib.hid hAl
    clear hAl
    go_wp2_with fail
    refine HAl.out.mono ?_
    rintro e w4 ⟨rfl,hb4⟩
    go_wp2_with fail
    go_ret
    exact ⟨rfl,HPB.out.1.blw.trans (hb4.mono HPB.out.1.blw.size)⟩
   ·have hb1000:x.body.length≤1000:=by omega
    by_cases hw:x.wrong=0
    ·have HWr:=Lib.hid (mWrite_any x _ wB hb1000 HPB.out.2 hw)
     have HST2:=Lib.hid (And.intro hw HST.out)
     clear hw hb1000
     go_wp2_with fail
     refine HWr.out.mono ?_
     rintro e w4 ⟨vv,rfl,hR4,hO4,hB4⟩
     obtain ⟨A5,q5,hvv, -, -⟩:=Row.slice hR4
     subst hvv
     have hP4:=HPB.out.1.fresh hB4
     have hlv:=hP4.wants.row.slice
     obtain ⟨AW,cW,hlv⟩:=hlv
     subst hlv
     have hlt:=HPB.out.1.brd.lt
     obtain ⟨A7,q7,w7,p1,p2,p3⟩:=hP4.add (by have:=HST2.out.2.2;omega) hR4 (fun k q=>⟨by have:=hO4 k q;have:=HPB.out.1.blw.size;omega,fun z=>by have:=hO4 k q;have:=hlt k z;omega⟩) rfl rfl HK.out.2.2.2.2
     have HP:=Lib.hid p1
     have HQ:=Lib.hid p2
     clear p1 p2 p3 hlt hP4 hR4 hO4 hB4
     go_wp2_with (at_builtin;refine app_run_list rfl _ _ 41 41 rfl rfl rfl rfl HP.out ?_)
     go_roundw
     case rel=>
      refine ⟨k+1,by omega,by go_num,vs ++ [.slice A5 x.words.length q5], ?_,fun j hj=>by
       by_cases e:j=k
       ·subst e;rw [HXE.out.1];omega
       ·exact HXE.out.2 j (by omega)⟩
      have e:wantOf (l.take (k+1))=wantOf (l.take k) ++ [x.words]:=by rw [HST2.out.2.1,if_pos HST2.out.1]
      rw [e]
      exact HQ.out
     case measure=>simp [intOf];omega
    ·have HWr:=Lib.hid (mWrite_no x _ wB hb1000 HPB.out.2 hw)
     have e0:(x.wrong == 0)=false:=by rw [beq_eq_false_iff_ne];exact hw
     have HST2:=Lib.hid (And.intro hw HST.out)
     clear hw hb1000
     go_wp2_with fail
     refine HWr.out.mono ?_
     rintro e w4 ⟨rfl,hB4⟩
     have hP4:=HPB.out.1.fresh hB4
     have HP4:=Lib.hid hP4
     clear hP4 hB4
     go_wp2_with fail
     go_roundw
     case rel=>
      refine ⟨k+1,by omega,by go_num,vs, ?_,fun j hj=>by
       by_cases e:j=k
       ·subst e;rw [HXE.out.1];omega
       ·exact HXE.out.2 j (by omega)⟩
      have e:wantOf (l.take (k+1))=wantOf (l.take k):=by rw [HST2.out.2.1,if_neg HST2.out.1]
      rw [e]
      exact HP4.out
     case measure=>simp [intOf];omega
  ·have hkl:k=l.length:=by omega
   subst hkl
   rw [List.take_length] at hP
   obtain ⟨AW,cW,hlW⟩:=hP.wants.row.slice
   subst hlW
   have H50:=Lib.hid h50s
   clear h50s
   have HP:=Lib.hid hP
   have HWL:=Lib.hid (And.intro (want_len l) (rights_len l))
   have H8:=Lib.hid (want_ok l)
   clear hP HB2 hin hk q0 q1
   obtain ⟨s0,hs0⟩:∃s0:HS,s0=⟨Bd.new n r m,0,0⟩:=⟨_,rfl⟩
   have HI0:=Lib.hid (show HI (wantOf l) s0∧s0.b.now=0∧s0.came=0∧s0.next=0∧s0.b=Bd.new n r m from by rw [hs0];exact ⟨HI.first (by omega) (by omega) (by have:=right_of HRT.out;omega) hr8,rfl,rfl,rfl,rfl⟩)
   have HFi:=Lib.hid (show ∀k,k≤3000→HFine (wantOf l) n (hrun (wantOf l) moves s0 k) k from by rw [hs0];exact HFine.run H8.out HRT.out moves)
   clear hs0
   go_wp2_with fail
   go_loopw [14,15,76] (fun cv nv jv u=>∃k:Nat,k≤3000∧jv= .int .i64 k∧nv= .int .i64 ((hrun (wantOf l) moves s0 k).next:Int)∧∃Y bl',HL w u bd Y (hrun (wantOf l) moves s0 k).b (.slice AW (wantOf l).length cW) vs (wantOf l) cv ((rights l).take (hrun (wantOf l) moves s0 k).came) bl')
    (fun _ _ jv _=>3000-(intOf jv).toNat)
   case atStart=>
    refine ⟨0,by omega,rfl, ?_,Y,fun _=>nilS, ?_⟩
    ·show _=Value.int .i64 (s0.next:Int)
     rw [HI0.out.2.2.2.1];rfl
    ·show HL w _ bd Y s0.b _ vs (wantOf l) nilS ((rights l).take s0.came) _
     rw [HI0.out.2.2.1,HI0.out.2.2.2.2]
     exact HP.out
   case round=>
    obtain ⟨k,hk,rfl,rfl,Y2,bl2,hP2⟩:=hrel
    obtain ⟨hi1,hi2,hi3⟩:=hrun_all H8.out moves s0 HI0.out.1 HI0.out.2.1 HI0.out.2.2.1 k hk
    have hfi:=HFi.out k hk
    by_cases hin:k<3000
    ·have hst:hrun (wantOf l) moves s0 (k+1)=hstep (wantOf l) (hrun (wantOf l) moves s0 k) (hmove moves k):=rfl
     generalize hrun (wantOf l) moves s0 k=s at *
     obtain ⟨x,hx⟩:∃x,x=hmove moves k:=⟨_,rfl⟩
     rw [←hx] at hst
     obtain ⟨wB,hwB⟩:∃wB,wB=wr.alloc (.cells #[.int .i64 x.core, .bool x.drain] 48):=⟨_,rfl⟩
     have hk0:(0:Int)≤(k:Int):=by omega
     have hkm':(k:Int)<(moves.length:Int) ↔ k<moves.length:=by omega
     have HWB:=Lib.hid hwB
     have HST:=Lib.hid hst
     have HS:=Lib.hid (And.intro hi1 (And.intro hi2 (And.intro hi3 hfi)))
     have HP2:=Lib.hid hP2
     obtain ⟨AC,cC,hlC⟩:=hP2.came.row.slice
     have hml:((rights l).take s.came).length=s.came:=by
      have:=HWL.out.1
      rw [List.length_take];omega
     rw [hml] at hlC
     subst hlC
     clear hml
     clear hwB hst hi1 hi2 hi3 hfi hP2
     by_cases hkm:k<moves.length
     case' pos=>
      have hkm2:(k:Int)<(moves.length:Int):=by omega
      have hx2:x=moves.getD k Mv.none_:=by rw [hx];unfold hmove;rw [if_pos hkm];rfl
      obtain ⟨g,off,c',hv,hc,hx0,hx1⟩:=(HA.out.2.fresh HP2.out.blw).at_ hkm
      injection hv with hA hzz hcc
      clear hzz
      subst hA hcc
      rw [←hx2] at hx0 hx1
      have hx0:(wr.alloc (.cells #[.int .i64 ((k:Int)%2), .bool false] 48)).cell? ⟨g,off+k*2,none⟩=some (.int .i64 x.core):=cell_al hx0
      have hx1:(wr.alloc (.cells #[.int .i64 ((k:Int)%2), .bool false] 48)).cell? ⟨g,off+k*2+1,none⟩=some (.bool x.drain):=cell_al hx1
      clear hx hx2 hkm hkm'
      go_upto_region 22 with fail
      rw [←HWB.out]
      clear hx0 hx1
     case' neg=>
      have hkm2: ¬(k:Int)<(moves.length:Int):=by omega
      have hx2:x=⟨((k%2:Nat):Int),false⟩:=by rw [hx];unfold hmove;rw [if_neg hkm]
      have e1:wr.alloc (.cells #[.int .i64 ((k:Int)%2), .bool false] 48)=wB:=by
       rw [HWB.out,hx2]
       simp only
       rw [show ((k%2:Nat):Int)=(k:Int)%2 by omega]
      have E1:=Lib.hid e1
      clear hx hx2 hkm hkm' e1
      go_upto_region 22 with fail
      rw [E1.out]
     all_goals (
      have hba:Below wr.heap.size wr wB:=by rw [HWB.out];exact (Below.refl _ _).alloc (Nat.le_refl _) _
      have hkB:Blk wB wr.heap.size 48 [.int .i64 x.core, .bool x.drain]:=by rw [HWB.out];exact Blk.new wr 48 _
      have HPB:=Lib.hid (And.intro (HP2.out.fresh hba) hkB)
      have y0:=hkB.cell 0
      have y1:=hkB.cell 1
      simp only [List.getElem?_cons_zero,List.getElem?_cons_succ] at y0 y1
      clear hba hkB
      by_cases hlo:x.core<0
      ·have HS3:=Lib.hid (show hrun (wantOf l) moves s0 (k+1)=s by rw [HST.out];unfold hstep;rw [if_pos (.inl hlo)])
       go_wp2_with fail
       go_roundw
       case rel=>
        refine ⟨k+1,by omega,by go_num, ?_,Y2,bl2, ?_⟩
        ·rw [HS3.out]
        ·rw [HS3.out];exact HPB.out.1
       case measure=>simp [intOf];omega
      ·by_cases hhi:1<x.core
       ·have HS3:=Lib.hid (show hrun (wantOf l) moves s0 (k+1)=s by rw [HST.out];unfold hstep;rw [if_pos (.inr hhi)])
        go_wp2_with fail
        go_roundw
        case rel=>
         refine ⟨k+1,by omega,by go_num, ?_,Y2,bl2, ?_⟩
         ·rw [HS3.out]
         ·rw [HS3.out];exact HPB.out.1
        case measure=>simp [intOf];omega
       ·have hno: ¬(x.core<0∨1<x.core):=by omega
        cases hd:x.drain with
        | true=>
         rw [hd] at y1
         have HS3:=Lib.hid (show hrun (wantOf l) moves s0 (k+1)= { s with b:=(s.b.do_ ⟨2,x.core,0,0, []⟩).1 } by
          rw [HST.out]
          unfold hstep
          rw [if_neg hno,if_pos hd])
         have hDo:=fine_do (x:=⟨2,x.core,0,0, []⟩) HS.out.2.2.2.fine (by omega) (by simp) (nilLoad _ _ _) HPB.out.1.brd
         rw [HPB.out.1.bd] at hDo
         unfold evV ptr at hDo
         simp only at hDo
         have HDo:=Lib.hid hDo
         clear hDo
         go_wp2_with fail
         refine HDo.out.mono ?_
         rintro e w4 ⟨rfl,hT⟩
         obtain ⟨Y3,hP3⟩:=HPB.out.1.do_ hT
         have HP3:=Lib.hid hP3
         clear hT hP3
         go_wp2_with fail
         go_roundw
         case rel=>
          refine ⟨k+1,by omega,by go_num, ?_,Y3,bl2, ?_⟩
          ·rw [HS3.out]
          ·rw [HS3.out];exact HP3.out
         case measure=>simp [intOf];omega
        | false=>
         rw [hd] at y1
         have hdn: ¬x.drain=true:=by rw [hd];simp
         obtain ⟨c,hcx,hc1⟩:∃c:Nat,x.core=(c:Int)∧c≤1:=⟨x.core.toNat,by omega,by omega⟩
         have hct:x.core.toNat=c:=by rw [hcx];rfl
         have hnn:=HS.out.2.2.2.n_
         have hBu:=bBusy_any (c:=c) (by rw [hnn];omega) HPB.out.1.brd
         rw [HPB.out.1.bd] at hBu
         unfold ptr at hBu
         rw [hcx] at y0 hlo hhi
         have HX:=Lib.hid (And.intro hno (And.intro hdn (And.intro hcx hct)))
         clear hno hdn hcx hct hd
         cases hru:(s.b.cor c).runs.isSome with
         | true=>
          rw [hru] at hBu
          have HBu:=Lib.hid hBu
          have HRu:=Lib.hid hru
          clear hBu hru
          go_wp2_with fail
          refine HBu.out.mono ?_
          rintro e w' ⟨rfl,rfl⟩
          have HS3:=Lib.hid (show hrun (wantOf l) moves s0 (k+1)= { s with b:=(s.b.do_ ⟨1,(c:Int),0,0, []⟩).1 } by
           rw [HST.out]
           unfold hstep
           rw [if_neg HX.out.1,if_neg HX.out.2.1,HX.out.2.2.2,if_pos HRu.out,HX.out.2.2.1])
          have hDo:=fine_do (x:=⟨1,(c:Int),0,0, []⟩) HS.out.2.2.2.fine (by omega) (by simp) (nilLoad _ _ _) HPB.out.1.brd
          rw [HPB.out.1.bd] at hDo
          unfold evV ptr at hDo
          simp only at hDo
          have HDo:=Lib.hid hDo
          clear hDo
          go_wp2_with fail
          refine HDo.out.mono ?_
          rintro e w4 ⟨rfl,hT⟩
          obtain ⟨Y3,hP3⟩:=HPB.out.1.do_ hT
          have HP3:=Lib.hid hP3
          clear hT hP3
          go_wp2_with fail
          go_roundw
          case rel=>
           refine ⟨k+1,by omega,by go_num, ?_,Y3,bl2, ?_⟩
           ·rw [HS3.out]
           ·rw [HS3.out];exact HP3.out
          case measure=>simp [intOf];omega
         | false=>
          rw [hru] at hBu
          have HBu:=Lib.hid hBu
          have HRu:=Lib.hid hru
          clear hBu hru
          go_wp2_with fail
          refine HBu.out.mono ?_
          rintro e w' ⟨rfl,rfl⟩
          rcases (show c=0∨c=1 by omega) with rfl|rfl
          ·have hcore:x.core=0:=by have:=HX.out.2.2.1;omega
           by_cases hnx:s.next<(wantOf l).length
           ·have HS3:=Lib.hid (show hrun (wantOf l) moves s0 (k+1)= { s with b:=(begunB (wantOf l) s.b s.next).1,next:=s.next+(begunB (wantOf l) s.b s.next).2 } by
             rw [HST.out]
             unfold hstep
             rw [if_neg HX.out.1,if_neg HX.out.2.1,HX.out.2.2.2,if_neg (by rw [HRu.out];simp),if_pos ⟨hcore,hnx⟩])
            have hw8:((wantOf l).getD s.next []).length≤1000:=by
             have:=want_getD l (k:=s.next) (by have:=HWL.out;omega)
             rw [this.1]
             have:=(words_ok this.2).1
             omega
            have hB:=begun_any HS.out.2.2.2.fine (by omega) HS.out.2.2.2.shrt hnx (by have:=HWL.out;omega) HPB.out.1.wants (HPB.out.1.loadOk hnx hw8) HPB.out.1.brd
            rw [HPB.out.1.bd] at hB
            unfold ptr at hB
            have ht1:(begunB (wantOf l) s.b s.next).2≤1:=by
             unfold begunB
             split<;>simp
            have hn12:s.next≤12:=by have:=HWL.out;omega
            generalize begunB (wantOf l) s.b s.next=tt at *
            obtain ⟨tb,t⟩:=tt
            simp only at hB ht1
            have HB:=Lib.hid hB
            have hnx':(s.next:Int)<((wantOf l).length:Int):=by omega
            clear hB hw8
            go_wp2_with fail
            refine HB.out.mono ?_
            rintro e w4 ⟨rfl,hT⟩
            obtain ⟨Y3,hP3⟩:=HPB.out.1.do_ hT
            have HP3:=Lib.hid hP3
            clear hT hP3
            go_wp2_with fail
            go_roundw
            case rel=>
             refine ⟨k+1,by omega,by go_num, ?_,Y3,bl2, ?_⟩
             ·rw [HS3.out]
              show Value.int .i64 _=Value.int .i64 ((s.next+t:Nat):Int)
              rw [Int.natCast_add]
             ·rw [HS3.out];exact HP3.out
            case measure=>simp [intOf];omega
           ·have hnx': ¬(s.next:Int)<((wantOf l).length:Int):=by omega
            have HS3:=Lib.hid (show hrun (wantOf l) moves s0 (k+1)=s by
             rw [HST.out]
             unfold hstep
             rw [if_neg HX.out.1,if_neg HX.out.2.1,HX.out.2.2.2,if_neg (by rw [HRu.out];simp),if_neg (fun q=>hnx q.2),if_neg (fun q=>by have:=q.1;omega)])
            go_wp2_with fail
            go_roundw
            case rel=>
             refine ⟨k+1,by omega,by go_num, ?_,Y2,bl2, ?_⟩
             ·rw [HS3.out]
             ·rw [HS3.out];exact HPB.out.1
            case measure=>simp [intOf];omega
          ·have hcore:x.core=1:=by have:=HX.out.2.2.1;omega
           by_cases hcm:s.came<(wantOf l).length
           ·have HS3:=Lib.hid (show hrun (wantOf l) moves s0 (k+1)= { s with b:=(takenB s.b).1,came:=s.came+(takenB s.b).2 } by
             rw [HST.out]
             unfold hstep
             rw [if_neg HX.out.1,if_neg HX.out.2.1,HX.out.2.2.2,if_neg (by rw [HRu.out];simp),if_neg (fun q=>by have:=q.1;omega),if_pos ⟨hcore,hcm⟩])
            have hcr:s.came<(rights l).length:=by have:=HWL.out;omega
            have hwg:=want_getD l hcr
            have hB:=taken_any (m:=(rights l).getD s.came Msg.none_) HK.out.2.2.2.2 HPB.out.1.ge HS.out.2.2.2.fine (by omega) HS.out.2.2.2.shrt HPB.out.1.came (by have:=HWL.out;rw [List.length_take];omega) HPB.out.1.cown
             (fun e he hc=>by
              have hrn:(s.b.cor 1).runs=none:=by simpa using HRu.out
              have:=HS.out.1.taken hrn e he hc
              exact ⟨this.1.trans hwg.1,hwg.2⟩) HPB.out.1.brd
            rw [HPB.out.1.bd] at hB
            unfold ptr at hB
            have HB:=Lib.hid hB
            have hcm':(s.came:Int)<((wantOf l).length:Int):=by omega
            have HMS:=Lib.hid (show tkMs s.b ((rights l).take s.came) ((rights l).getD s.came Msg.none_)=(rights l).take (s.came+(takenB s.b).2) by
             unfold tkMs
             have h01:(takenB s.b).2≤1:=by
              unfold takenB
              repeat' split
              all_goals simp
             by_cases e:(takenB s.b).2=1
             ·rw [if_pos e,e,List.take_succ_eq_append_getElem hcr,List.getD_eq_getElem?_getD,List.getElem?_eq_getElem hcr,Option.getD_some]
             ·rw [if_neg e,show (takenB s.b).2=0 by omega,Nat.add_zero])
            clear hB hcr hwg
            go_wp2_with fail
            refine HB.out.mono ?_
            rintro e w4 ⟨v4,rfl,bl4,hT⟩
            obtain ⟨Y3,hP3⟩:=HPB.out.1.take hT
            have HP3:=Lib.hid hP3
            clear hT hP3
            go_wp2_with fail
            go_roundw
            case rel=>
             refine ⟨k+1,by omega,by go_num, ?_,Y3,bl4, ?_⟩
             ·rw [HS3.out]
             ·rw [HS3.out, ←HMS.out];exact HP3.out
            case measure=>simp [intOf];omega
           ·have hcm': ¬(s.came:Int)<((wantOf l).length:Int):=by omega
            have HS3:=Lib.hid (show hrun (wantOf l) moves s0 (k+1)=s by
             rw [HST.out]
             unfold hstep
             rw [if_neg HX.out.1,if_neg HX.out.2.1,HX.out.2.2.2,if_neg (by rw [HRu.out];simp),if_neg (fun q=>by have:=q.1;omega),if_neg (fun q=>hcm q.2)])
            go_wp2_with fail
            go_roundw
            case rel=>
             refine ⟨k+1,by omega,by go_num, ?_,Y2,bl2, ?_⟩
             ·rw [HS3.out]
             ·rw [HS3.out];exact HPB.out.1
            case measure=>simp [intOf];omega)
    ·have hk3:k=3000:=by omega
     subst hk3
     have hcame:=head_law H8.out (by have:=HWL.out;omega) moves hmv s0 HI0.out.1 HI0.out.2.1 HI0.out.2.2.1
     rw [hcame,List.take_of_length_le (by have:=HWL.out;omega)] at hP2
     generalize hrun (wantOf l) moves s0 3000=s at *
     obtain ⟨AC,cC,hlC⟩:=hP2.came.row.slice
     subst hlC
     have hlt: ¬((rights l).length:Int)<((wantOf l).length:Int):=by have:=HWL.out;omega
     have HP2:=Lib.hid hP2
     clear hP2 hcame hi1 hi2 hi3 hfi HFi HI0 hin hk
     go_wp2_with fail
     go_loopw [18,154] (fun iv jv u=>∃k:Nat,k≤l.length∧jv= .int .i64 k∧iv= .int .i64 ((rights (l.take k)).length:Int)∧Below wr.heap.size wr u)
      (fun _ jv _=>l.length-(intOf jv).toNat)
     case atStart=>exact ⟨0,by omega,rfl,rfl,Below.refl _ _⟩
     case round=>
      obtain ⟨k,hk,rfl,rfl,hbu⟩:=hrel
      by_cases hin:k<l.length
      ·obtain ⟨g,off,c',hv,hc,hx⟩:=(HA.out.1.fresh (HP2.out.fresh hbu).blw).at_ hin
       injection hv with hA hzz hcc
       clear hzz
       subst hA hcc
       have hbr:=(HA.out.1.fresh (HP2.out.fresh hbu).blw).body k hin
       have h50:=H50.out k hin
       have hrt:=rights_at l k hin
       obtain ⟨A2,c2,hlv⟩:=hbr.slice
       generalize l.getD k Msg.none_=x at *
       generalize bl k=lv2 at *
       subst hlv
       have x0:=hx 0 (by omega)
       have x1:=hx 1 (by omega)
       have x2:=hx 2 (by omega)
       have x3:=hx 3 (by omega)
       simp only [msgCells,List.getElem?_cons_zero,List.getElem?_cons_succ,Nat.add_zero] at x0 x1 x2 x3
       have hi0:(0:Int)≤(k:Int):=by omega
       have hi1:(k:Int)<(l.length:Int):=by omega
       obtain ⟨wB,hwB⟩:∃wB,wB=wr.alloc (.cells #[.int .i64 x.kind, .int .i64 x.dst, .int .i64 x.src, .slice A2 x.body.length c2] 43):=⟨_,rfl⟩
       have hba:Below wr.heap.size wr wB:=by rw [hwB];exact (Below.refl _ _).alloc (Nat.le_refl _) _
       have hkB:Blk wB wr.heap.size 43 [.int .i64 x.kind, .int .i64 x.dst, .int .i64 x.src, .slice A2 x.body.length c2]:=by rw [hwB];exact Blk.new wr 43 _
       have hbB:=hbu.trans (hba.mono hbu.size)
       have y0:=hkB.cell 0
       have y1:=hkB.cell 1
       have y2:=hkB.cell 2
       have y3:=hkB.cell 3
       simp only [List.getElem?_cons_zero,List.getElem?_cons_succ] at y0 y1 y2 y3
       have hRi:=mRight_any x _ wB (by omega) (hbr.fresh hba)
       have HWB:=Lib.hid hwB
       have HRi:=Lib.hid hRi
       have HBB:=Lib.hid (And.intro hbB (And.intro hkB (hbr.fresh hba)))
       have HRT2:=Lib.hid hrt
       clear hx hba hkB hwB hbr hbu hbB hRi hrt
       go_upto_region 38 with fail
       rw [←HWB.out]
       clear x0 x1 x2 x3
       by_cases hw:x.wrong=0
       ·have hwd:decide (x.wrong=0)=true:=decide_eq_true hw
        rw [hwd] at HRi
        have hrr:=HRT2.out.1 hw
        go_wp2_with fail
        refine HRi.out.mono ?_
        rintro e w4 ⟨rfl,hb4⟩
        have hbt:=HBB.out.1.trans (hb4.mono HBB.out.1.size)
        have hP4:=HP2.out.fresh hbt
        obtain ⟨g2,o2,cc2,hv2,hc2,hx2⟩:=hP4.came.read.at_ hrr.1
        have hbd2:=hP4.came.read.body _ hrr.1
        rw [hrr.2.1] at hx2 hbd2
        injection hv2 with ha hzz hcc2
        clear hzz
        subst ha hcc2
        obtain ⟨A3,c3,hlv3⟩:=hbd2.slice
        have kB4:=HBB.out.2.1.keep (Keep.ofFresh hb4 (B:=0) (F:=fun _=>False)) (fun q=>q)
        have z0:=kB4.cell 0
        have z1:=kB4.cell 1
        have z2:=kB4.cell 2
        have z3:=kB4.cell 3
        have s0':=hx2 0 (by omega)
        have s1':=hx2 1 (by omega)
        have s2':=hx2 2 (by omega)
        have s3':=hx2 3 (by omega)
        rw [hlv3] at s3' hbd2
        simp only [msgCells,List.getElem?_cons_zero,List.getElem?_cons_succ,Nat.add_zero] at z0 z1 z2 z3 s0' s1' s2' s3'
        generalize (rights (l.take k)).length=q at *
        have hS:((w4.cell? ⟨g2,o2+q*4,none⟩=some (.int .i64 x.kind)∧w4.cell? ⟨g2,o2+q*4+1,none⟩=some (.int .i64 x.dst)∧w4.cell? ⟨g2,o2+q*4+2,none⟩=some (.int .i64 x.src)∧w4.cell? ⟨g2,o2+q*4+3,none⟩=some (.slice A3 x.body.length c3))∧
         (w4.cell? ⟨wr.heap.size,0,none⟩=some (.int .i64 x.kind)∧w4.cell? ⟨wr.heap.size,1,none⟩=some (.int .i64 x.dst)∧w4.cell? ⟨wr.heap.size,2,none⟩=some (.int .i64 x.src)∧w4.cell? ⟨wr.heap.size,3,none⟩=some (.slice A2 x.body.length c2))):=⟨⟨s0',s1',s2',s3'⟩,z0,z1,z2,z3⟩
        have hlt2:g2<w4.heap.size:=World.block_lt_of_cell? w4 _ s0'
        have hlt3:wr.heap.size<w4.heap.size:=World.block_lt_of_cell? w4 _ z0
        have HSm:=Lib.hid (show ∀u,Below w4.heap.size w4 u→Calls Tryz.prog 16 #[.agg #[.int .i64 x.kind, .int .i64 x.dst, .int .i64 x.src, .slice A3 x.body.length c3], .agg #[.int .i64 x.kind, .int .i64 x.dst, .int .i64 x.src, .slice A2 x.body.length c2]] u fun e w'=>e= .returned (.bool true)∧
         ((w'.cell? ⟨g2,o2+q*4,none⟩=some (.int .i64 x.kind)∧w'.cell? ⟨g2,o2+q*4+1,none⟩=some (.int .i64 x.dst)∧w'.cell? ⟨g2,o2+q*4+2,none⟩=some (.int .i64 x.src)∧w'.cell? ⟨g2,o2+q*4+3,none⟩=some (.slice A3 x.body.length c3))∧
         (w'.cell? ⟨wr.heap.size,0,none⟩=some (.int .i64 x.kind)∧w'.cell? ⟨wr.heap.size,1,none⟩=some (.int .i64 x.dst)∧w'.cell? ⟨wr.heap.size,2,none⟩=some (.int .i64 x.src)∧w'.cell? ⟨wr.heap.size,3,none⟩=some (.slice A2 x.body.length c2)))∧Below w4.heap.size w4 w' from fun u hb=>by
          refine (mSame_any x _ _ u (by omega) (hbd2.fresh hb) ((HBB.out.2.2.fresh hb4).fresh hb)).mono ?_
          rintro e w' ⟨rfl,hB⟩
          have hB':=hb.trans (hB.mono hb.size)
          obtain ⟨⟨a0,a1,a2,a3⟩,b0,b1,b2,b3⟩:=hS
          exact ⟨rfl,⟨⟨(hB'.cell hlt2).trans a0,(hB'.cell hlt2).trans a1,(hB'.cell hlt2).trans a2,(hB'.cell hlt2).trans a3⟩,(hB'.cell hlt3).trans b0,(hB'.cell hlt3).trans b1,(hB'.cell hlt3).trans b2,(hB'.cell hlt3).trans b3⟩,hB'⟩)
        have hq0:(0:Int)≤(q:Int):=by omega
        have hq1:(q:Int)<((rights l).length:Int):=by omega
        have hq2:decide (((rights l).length:Int)≤(q:Int))=false:=decide_eq_false (by omega)
        have hq3:decide ((rights l).length≤q)=false:=decide_eq_false (by omega)
        have hq4: ¬(rights l).length≤q:=by omega
        have HRR:=Lib.hid (And.intro hrr hbt)
        clear hrr hbt hb4 hP4 hbd2 kB4 z0 z1 z2 z3 s0' s1' s2' s3' hx2 hlv3 hlt2 hlt3 y0 y1 y2 y3
        go_upto_region 39 with fail
        go_region_held3 (fun u=>(u.cell? ⟨g2,o2+q*4,none⟩=some (.int .i64 x.kind)∧u.cell? ⟨g2,o2+q*4+1,none⟩=some (.int .i64 x.dst)∧u.cell? ⟨g2,o2+q*4+2,none⟩=some (.int .i64 x.src)∧u.cell? ⟨g2,o2+q*4+3,none⟩=some (.slice A3 x.body.length c3))∧
         (u.cell? ⟨wr.heap.size,0,none⟩=some (.int .i64 x.kind)∧u.cell? ⟨wr.heap.size,1,none⟩=some (.int .i64 x.dst)∧u.cell? ⟨wr.heap.size,2,none⟩=some (.int .i64 x.src)∧u.cell? ⟨wr.heap.size,3,none⟩=some (.slice A2 x.body.length c2))) (first|exact hS|assumption) (first|(go_at_call 16;refine (HSm.out _ (by first|exact Below.refl _ _|exact (Below.refl _ _).drew)).mono ?_;rintro e w5 ⟨rfl,hS5,HB5⟩;have HB5:=Lib.hid HB5))
        go_wp2_with fail
        go_roundw
        case rel=>
         refine ⟨k+1,by omega,by go_num, ?_,HRR.out.2.trans (HB5.out.mono HRR.out.2.size)⟩
         rw [HRR.out.1.2.2]
         have:=HWL.out
         exact congrArg (Value.int .i64) (show wrap64 ((q:Int)+1)=((q+1:Nat):Int) by unfold wrap64;omega)
        case measure=>simp [intOf];omega
       ·have hwd:decide (x.wrong=0)=false:=decide_eq_false hw
        rw [hwd] at HRi
        have hrr:=HRT2.out.2 hw
        go_wp2_with fail
        refine HRi.out.mono ?_
        rintro e w4 ⟨rfl,hb4⟩
        have HB4:=Lib.hid (HBB.out.1.trans (hb4.mono HBB.out.1.size))
        have HRR:=Lib.hid hrr
        clear hb4 hrr
        go_wp2_with fail
        go_roundw
        case rel=>
         refine ⟨k+1,by omega,by go_num, ?_,HB4.out⟩
         rw [HRR.out]
        case measure=>simp [intOf];omega
      ·have hkl:k=l.length:=by omega
       subst hkl
       rw [List.take_length]
       have hAl:=alive_any _ ((HP2.out.fresh hbu).brd.glob)
       have HAl:=Lib.hid hAl
       have HBU:=Lib.hid hbu
       clear hAl hbu
       go_wp2_with fail
       refine HAl.out.mono ?_
       rintro e w4 ⟨rfl,hb4⟩
       have HB4:=Lib.hid hb4
       clear hb4
       go_wp2_with fail
       go_ret
       exact ⟨rfl,(HP2.out.fresh HBU.out).blw.trans (HB4.out.mono (HP2.out.fresh HBU.out).blw.size)⟩
set_option maxHeartbeats 2000000 in
set_option maxRecDepth 100000 in
theorem head_wrong (n r m:Int) (hR:rightB n r m=false) (hr:r<9223372036854775808) (v mv:Value) (w:World) (hg:Glob w):
  Calls Tryz.prog 4 #[plotV n r m,v,mv] w fun e w'=>e= .returned (.bool true)∧Below w.heap.size w w':=by
 obtain ⟨w1,hw1,hb1,hk1,hg1,hz1⟩:=plot_box n r m w hg
 have hN:=bNew_no n r m hR hr w1 hg1
 have p0:=hk1.cell 0
 have p1:=hk1.cell 1
 have p2:=hk1.cell 2
 simp only [List.getElem?_cons_zero,List.getElem?_cons_succ] at p0 p1 p2
 have HW:=Lib.hid hw1
 have HN:=Lib.hid hN
 have HB:=Lib.hid (And.intro hb1 hg1)
 clear hw1 hN hb1 hk1 hg1 hz1 hR hg hr
 unfold plotV at *
 go_enter Tryz.func4,Tryz.ntmps4
 go_wp2_with fail
 rw [←HW.out]
 go_wp2_with fail
 refine HN.out.mono ?_
 rintro e w2 ⟨rfl,hb2⟩
 have hA:=alive_any w2 (HB.out.2.fresh hb2)
 have HA:=Lib.hid hA
 have HB2:=Lib.hid (HB.out.1.trans (hb2.mono HB.out.1.size))
 clear hA hb2
 go_wp2_with fail
 refine HA.out.mono ?_
 rintro e w3 ⟨rfl,hb3⟩
 go_wp2_with fail
 go_ret
 exact ⟨rfl,HB2.out.trans (hb3.mono HB2.out.size)⟩
set_option maxHeartbeats 2000000 in
set_option maxRecDepth 100000 in
theorem head_many (n r m:Nat) (hR:rightB n r m=true) (A Am:Option Addr) (nl nm cl cm:Nat) (w:World) (hg:Glob w) (hx: ¬(nl≤12∧nm≤200∧n≤4∧r≤8)):
  Calls Tryz.prog 4 #[plotV n r m, .slice A nl cl, .slice Am nm cm] w fun e w'=>e= .returned (.bool true)∧Below w.heap.size w w':=by
 obtain ⟨w1,hw1,hb1,hk1,hg1,hz1⟩:=plot_box n r m w hg
 have hN:=bNew_any n r m hR w1 hg1
 have p0:=hk1.cell 0
 have p1:=hk1.cell 1
 have p2:=hk1.cell 2
 simp only [List.getElem?_cons_zero,List.getElem?_cons_succ] at p0 p1 p2
 have HW:=Lib.hid hw1
 have HN:=Lib.hid hN
 have HK:=Lib.hid (And.intro hb1 (And.intro hk1 hg1))
 clear hw1 hN hb1 hk1 hg1 hz1 hR hg
 unfold plotV at *
 go_enter Tryz.func4,Tryz.ntmps4
 go_wp2_with fail
 rw [←HW.out]
 go_wp2_with fail
 refine HN.out.mono ?_
 rintro e w2 ⟨Y,rfl,hY,hge,hb2⟩
 have hk2:=HK.out.2.1.keep (Keep.ofFresh hb2 (B:=0) (F:=fun _=>False)) (fun q=>q)
 have q0:w2.cell? ⟨w.heap.size,0,none⟩=some (.int .i64 (n:Int)):=hk2.cell 0
 have q1:w2.cell? ⟨w.heap.size,1,none⟩=some (.int .i64 (r:Int)):=hk2.cell 1
 have HAl:=Lib.hid (alive_any w2 (HK.out.2.2.fresh hb2))
 have HB2:=Lib.hid (HK.out.1.trans (hb2.mono HK.out.1.size))
 have HX:=Lib.hid hx
 clear hk2 hY hge hb2 p0 p1 p2 HN hx
 by_cases h1:(12:Int)<(nl:Int)
 ·go_wp2_with fail
  refine HAl.out.mono ?_
  rintro e w3 ⟨rfl,hb3⟩
  go_wp2_with fail
  go_ret
  exact ⟨rfl,HB2.out.trans (hb3.mono HB2.out.size)⟩
 by_cases h2:(200:Int)<(nm:Int)
 ·go_wp2_with fail
  refine HAl.out.mono ?_
  rintro e w3 ⟨rfl,hb3⟩
  go_wp2_with fail
  go_ret
  exact ⟨rfl,HB2.out.trans (hb3.mono HB2.out.size)⟩
 by_cases h3:(4:Int)<(n:Int)
 ·go_wp2_with fail
  refine HAl.out.mono ?_
  rintro e w3 ⟨rfl,hb3⟩
  go_wp2_with fail
  go_ret
  exact ⟨rfl,HB2.out.trans (hb3.mono HB2.out.size)⟩
 by_cases h4:(8:Int)<(r:Int)
 ·go_wp2_with fail
  refine HAl.out.mono ?_
  rintro e w3 ⟨rfl,hb3⟩
  go_wp2_with fail
  go_ret
  exact ⟨rfl,HB2.out.trans (hb3.mono HB2.out.size)⟩
 exact absurd ⟨by omega,by omega,by omega,by omega⟩ HX.out
section
open Go.ChangeShapes Go.WideShapes Go.RowKit Go.Deep
theorem cellsOf43:Tryz.prog.cellsOf 43=4:=by kernel_rfl
theorem under39:Tryz.prog.underlying 39=some (.slice 43):=by kernel_rfl
theorem fields43:(match Tryz.prog.underlying 43 with|some (.struct fs)=>some (oneCellFields Tryz.prog fs,fs.size,fs.toList.map fun f=>f.type)|_=>none)=some (true,4, [3,3,3,31]):=by kernel_rfl
theorem struct43:∃fs,Tryz.prog.underlying 43=some (.struct fs)∧oneCellFields Tryz.prog fs=true∧fs.size=4∧(fs.toList.map fun f=>f.type)= [3,3,3,31]:=by
 have h:=fields43
 generalize Tryz.prog.underlying 43=d at h
 match d,h with
 | some (.struct fs),h=>
  simp only [Option.some.injEq,Prod.mk.injEq] at h
  exact ⟨fs,rfl,h.1,h.2.1,h.2.2⟩theorem cellsOf48:Tryz.prog.cellsOf 48=2:=by kernel_rfl
theorem under40:Tryz.prog.underlying 40=some (.slice 48):=by kernel_rfl
theorem fields48:(match Tryz.prog.underlying 48 with|some (.struct fs)=>some (oneCellFields Tryz.prog fs,fs.size,fs.toList.map fun f=>f.type)|_=>none)=some (true,2, [3,4]):=by kernel_rfl
theorem struct48:∃fs,Tryz.prog.underlying 48=some (.struct fs)∧oneCellFields Tryz.prog fs=true∧fs.size=2∧(fs.toList.map fun f=>f.type)= [3,4]:=by
 have h:=fields48
 generalize Tryz.prog.underlying 48=d at h
 match d,h with
 | some (.struct fs),h=>
  simp only [Option.some.injEq,Prod.mk.injEq] at h
  exact ⟨fs,rfl,h.1,h.2.1,h.2.2⟩
theorem under4b:Tryz.prog.underlying 4=some .bool:=by kernel_rfl
section
variable {H:Type} {enc:TypeId × Value→H} {w:World} {held:Bool} {fuel:Nat}
theorem msgsR_of {A:Option Addr} {len cap:Nat} {x:DataW H × List MemPlace} (h:DataW.trod enc Tryz.prog w 0 (fun _=>true) held fuel 39 [.slice A len cap]=some x):∃l bl,MsgsR w (.slice A len cap) l bl∧l.length=len:=by
 obtain ⟨fs,hu,hone,hsz,hty⟩:=struct43
 rcases open_slice_fields under39 hu hone (by rw [hsz];exact cellsOf43) h with ⟨hcs, -⟩|⟨a,len',cap',m,D,Pl,hcs, -,hl,hm,hmm,hx,hi⟩
 ·simp only [List.cons.injEq,Value.slice.injEq,and_true] at hcs
  obtain ⟨rfl,rfl,rfl⟩:=hcs
  exact ⟨[],fun _=>nilS,⟨.inl ⟨rfl,none,0,rfl⟩,fun i hi=>by simp at hi⟩,rfl⟩
 ·simp only [List.cons.injEq,Value.slice.injEq,and_true] at hcs
  obtain ⟨rfl,rfl,rfl⟩:=hcs
  simp only [if_true] at hmm
  subst hmm
  have one:∀i,i<len→∃e:Msg × Value,(∀r,r<4→w.cell? (a.add (i*4+r))=(msgCells e.1 e.2)[r]?)∧ReadI w e.2 e.1.body:=by
   intro i hil
   obtain ⟨ys,n, -, -, -,hf⟩:=hi i (by omega)
   have hfj:∀j t,([3,3,3,31]:List TypeId)[j]? = some t→∃v y,w.cell? (a.add (i*4+j))=some v∧DataW.trod enc Tryz.prog w 0 (fun _=>true) held n t [v]=some y:=by
    intro j t hj
    rw [←hty,List.getElem?_map] at hj
    obtain ⟨f,hfj,he⟩:=Option.map_eq_some_iff.1 hj
    obtain ⟨v,y,h1, -,h2⟩:=hf j f (by simpa using hfj)
    rw [hsz] at h1
    rw [he] at h2
    exact ⟨v,y,h1,h2⟩
   have int:∀j,([3,3,3,31]:List TypeId)[j]? = some 3→∃z:Int,w.cell? (a.add (i*4+j))=some (.int .i64 z):=by
    intro j hj
    obtain ⟨v,y,h1,h2⟩:=hfj j 3 hj
    obtain ⟨z,hz, -, -⟩:=DataW.trod_int under3 h2
    simp at hz
    subst hz
    exact ⟨z,h1⟩
   obtain ⟨z0,c0⟩:=int 0 rfl
   obtain ⟨z1,c1⟩:=int 1 rfl
   obtain ⟨z2,c2⟩:=int 2 rfl
   obtain ⟨lv,y,c3,hy⟩:=hfj 3 31 rfl
   obtain ⟨xs,hr,ho⟩:=readI_of hy
   refine ⟨⟨⟨z0,z1,z2,xs⟩,lv⟩,fun r hr=> ?_,hr⟩
   match r,hr with
   | 0,_=>exact c0
   | 1,_=>exact c1
   | 2,_=>exact c2
   | 3,_=>exact c3
  obtain ⟨l,hll,hlp⟩:=choose_list len (fun i (e:Msg × Value)=>(∀r,r<4→w.cell? (a.add (i*4+r))=(msgCells e.1 e.2)[r]?)∧ReadI w e.2 e.1.body) one
  have hgd:∀i,i<l.length→l[i]? = some ((l.map (·.1)).getD i Msg.none_,(l.map (·.2)).getD i nilS):=fun i hi=>by
   simp only [List.getD_eq_getElem?_getD,List.getElem?_map,List.getElem?_eq_getElem hi];rfl
  refine ⟨l.map (·.1),fun i=>(l.map (·.2)).getD i nilS,⟨?_,fun i hi=>(hlp i _ (hgd i (by simpa using hi))).2⟩,by simpa using hll⟩
  by_cases h0:0<len
  ·have hz:=(hlp 0 _ (hgd 0 (by omega))).1 0 (by omega)
   have e0:a.add (0*4+0)=a:=by simp [Addr.add]
   rw [e0] at hz
   obtain ⟨ha,hb⟩:=spot_none (v:= .int .i64 ((l.map (·.1)).getD 0 Msg.none_).kind) hz
   refine .inr ⟨a.block,a.off,_,by rw [List.length_map,hll, ←ha],hb,by rw [List.length_map];omega,fun i r hi hr=> ?_⟩
   have:=(hlp i _ (hgd i (by simpa using hi))).1 r hr
   rw [ha,add_lit] at this
   rw [Nat.add_assoc]
   exact this
  ·have hl0:len=0:=by omega
   subst hl0
   exact .inl ⟨by rw [List.eq_nil_of_length_eq_zero hll];rfl,_,_,rfl⟩
theorem movesR_of {A:Option Addr} {len cap:Nat} {x:DataW H × List MemPlace} (h:DataW.trod enc Tryz.prog w 0 (fun _=>true) held fuel 40 [.slice A len cap]=some x):∃l,MovesR w (.slice A len cap) l∧l.length=len:=by
 obtain ⟨fs,hu,hone,hsz,hty⟩:=struct48
 rcases open_slice_fields under40 hu hone (by rw [hsz];exact cellsOf48) h with ⟨hcs, -⟩|⟨a,len',cap',m,D,Pl,hcs, -,hl,hm,hmm,hx,hi⟩
 ·simp only [List.cons.injEq,Value.slice.injEq,and_true] at hcs
  obtain ⟨rfl,rfl,rfl⟩:=hcs
  exact ⟨[], .inl ⟨rfl,none,0,rfl⟩,rfl⟩
 ·simp only [List.cons.injEq,Value.slice.injEq,and_true] at hcs
  obtain ⟨rfl,rfl,rfl⟩:=hcs
  simp only [if_true] at hmm
  subst hmm
  have one:∀i,i<len→∃e:Mv,w.cell? (a.add (i*2+0))=some (.int .i64 e.core)∧w.cell? (a.add (i*2+1))=some (.bool e.drain):=by
   intro i hil
   obtain ⟨ys,n, -, -, -,hf⟩:=hi i (by omega)
   have hfj:∀j t,([3,4]:List TypeId)[j]? = some t→∃v y,w.cell? (a.add (i*2+j))=some v∧DataW.trod enc Tryz.prog w 0 (fun _=>true) held n t [v]=some y:=by
    intro j t hj
    rw [←hty,List.getElem?_map] at hj
    obtain ⟨f,hfj,he⟩:=Option.map_eq_some_iff.1 hj
    obtain ⟨v,y,h1, -,h2⟩:=hf j f (by simpa using hfj)
    rw [hsz] at h1
    rw [he] at h2
    exact ⟨v,y,h1,h2⟩
   obtain ⟨v0,y0,c0,t0⟩:=hfj 0 3 rfl
   obtain ⟨v1,y1,c1,t1⟩:=hfj 1 4 rfl
   obtain ⟨z,hz, -, -⟩:=DataW.trod_int under3 t0
   obtain ⟨bb,hb, -⟩:=DataW.trod_bool under4b t1
   simp at hz hb
   subst hz hb
   exact ⟨⟨z,bb⟩,c0,c1⟩
  obtain ⟨l,hll,hlp⟩:=choose_list len (fun i (e:Mv)=>w.cell? (a.add (i*2+0))=some (.int .i64 e.core)∧w.cell? (a.add (i*2+1))=some (.bool e.drain)) one
  have hgd:∀i,i<l.length→l[i]? = some (l.getD i Mv.none_):=fun i hi=>by
   rw [List.getD_eq_getElem?_getD,List.getElem?_eq_getElem hi];rfl
  refine ⟨l, ?_,hll⟩
  by_cases h0:0<len
  ·have hz:=(hlp 0 _ (hgd 0 (by omega))).1
   have e0:a.add (0*2+0)=a:=by simp [Addr.add]
   rw [e0] at hz
   obtain ⟨ha,hb⟩:=spot_none hz
   refine .inr ⟨a.block,a.off,_,by rw [hll, ←ha],hb,by omega,fun i hi=> ?_⟩
   have:=hlp i _ (hgd i hi)
   rw [ha,add_lit,add_lit] at this
   exact ⟨this.1,by rw [Nat.add_assoc];exact this.2⟩
  ·have hl0:len=0:=by omega
   subst hl0
   exact .inl ⟨List.eq_nil_of_length_eq_zero hll,_,_,rfl⟩
end
end
theorem head_any (n r m:Int) (hr:r<9223372036854775808) (A Am:Option Addr) (nl nm cl cm:Nat) (l:List Msg) (bl:Nat→Value) (moves:List Mv) (w:World) (hg:Glob w) (h:MsgsR w (.slice A nl cl) l bl) (hnl:l.length=nl) (hm:MovesR w (.slice Am nm cm) moves) (hnm:moves.length=nm):
  Calls Tryz.prog 4 #[plotV n r m, .slice A nl cl, .slice Am nm cm] w fun e w'=>e= .returned (.bool true)∧Below w.heap.size w w':=by
 cases hR:rightB n r m with
 | false=>exact head_wrong n r m hR hr _ _ w hg
 | true=>
  have hb:=right_of hR
  obtain ⟨hn0,hn1,⟨hr0,hr1⟩,hrb,hm0,hm1⟩:=hb
  obtain ⟨n',rfl⟩:=Int.eq_ofNat_of_zero_le (show 0≤n by omega)
  obtain ⟨r',rfl⟩:=Int.eq_ofNat_of_zero_le (show 0≤r by omega)
  obtain ⟨m',rfl⟩:=Int.eq_ofNat_of_zero_le (show 0≤m by omega)
  by_cases hx:nl≤12∧nm≤200∧n'≤4∧r'≤8
  ·exact head_main n' r' m' hR hx.2.2.1 hx.2.2.2 _ _ l bl moves w hg h hm (by omega) (by omega)
  ·exact head_many n' r' m' hR A Am nl nm cl cm w hg hx
end Go.Proofs.YtaaffebnajjfhaaGreatDoor.T
