/- Texts of this proof, merged: Taker, TTouch1, Taker2, Taker3, TStepA, Soc4. -/
import Derived.Test.YtaaffebnajjfhaaGreatDoorH09
import Derived.Test.YtaaffebnajjfhaaGreatDoorH10
namespace Go.Proofs.YtaaffebnajjfhaaGreatDoor.T
set_option linter.unusedVariables false
set_option linter.unusedSimpArgs false
set_option linter.unusedSectionVars false
open Go.RowKit
def Tak.cells (g:Tak) (tb:Nat) (vl:Value):List Value:=
 [.int .i64 g.base, .int .i64 g.ring, .int .i64 g.self, .int .i64 g.peer, .int .i64 g.own, .int .i64 g.known, .bool g.linked, .int .i64 g.head, .int .i64 g.used, .pointer (some ⟨tb,0,none⟩), .int .i64 g.pc, .int .i64 g.d, .int .i64 g.many, .int .i64 g.answer, .bool g.back,vl, .int .i64 g.got]
structure TakAt (w:World) (b tb:Nat) (vl:Value) (g:Tak):Prop where
 blk:Blk w b 163 (g.cells tb vl)
 tab:Grants.At w tb g.tab
 load:RowI w vl (nats g.load)
def TakF (b tb:Nat) (vl:Value) (k:Nat):Prop:=k=b∨k=tb∨vl.ownBlock=some k
section
variable {w w':World} {b tb:Nat} {vl:Value} {g g':Tak}
theorem TakAt.tblk (h:TakAt w b tb vl g):Blk w tb 192 g.tab.cells:=h.tab
theorem TakAt.keep {F:Nat→Prop} (h:TakAt w b tb vl g) (hk:Keep F w w') (hF:∀k,TakF b tb vl k→ ¬F k):TakAt w' b tb vl g:=
 ⟨h.blk.keep hk (hF b (.inl rfl)),Blk.keep h.tblk hk (hF tb (.inr (.inl rfl))),Row.keep h.load hk (fun k q=>hF k (.inr (.inr q)))⟩
theorem TakAt.fresh (h:TakAt w b tb vl g) (hb:Below w.heap.size w w'):TakAt w' b tb vl g:=h.keep (Keep.ofFresh hb (B:=0) (F:=fun _=>False)) (fun _ _ q=>q)
theorem TakAt.lt (h:TakAt w b tb vl g) (k:Nat) (hk:TakF b tb vl k):k<w.heap.size:=by
 rcases hk with rfl|rfl|e
 ·exact h.blk.lt
 ·exact h.tblk.lt
 ·exact Row.lt h.load k e
theorem TakAt.ne (h:TakAt w b tb vl g):b≠tb:=Blk.ne h.blk h.tblk (by decide)
theorem TakAt.put (h:TakAt w b tb vl g) (j:Nat) (u:Value) (hc:(g.cells tb vl).set j u=g'.cells tb vl) (h1:g'.tab=g.tab) (h3:g'.load=g.load):TakAt (w.setCell ⟨b,j,none⟩ u) b tb vl g':=by
 refine ⟨?_, ?_, ?_⟩
 ·rw [←hc];exact h.blk.set j u
 ·rw [h1];exact Blk.far h.tblk (p:=⟨b,j,none⟩) (fun e=>h.ne e.symm) u
 ·rw [h3];exact Row.far h.load h.blk (by decide) j u
theorem TakAt.soc {S:SocL} {n W most:Nat} {vs:Nat→Value} {m:Nat→Nat} {q:Nat→List (Nat × Nat)} {gg:Gates.Gt} (h:TakAt w b tb vl g) (hd:∀k,TakF b tb vl k→ ¬SocF S n vs k) (hT:SocTo w S n W most vs m q gg w'):TakAt w' b tb vl g:=by
 obtain ⟨vs',h1,h2,h3⟩:=hT
 exact h.keep h2 hd
theorem TakAt.noLoad (h:TakAt w b tb vl g) (hc:((g.cells tb vl).set 15 (.slice none 0 0))=g'.cells tb (.slice none 0 0)) (h1:g'.tab=g.tab) (h3:g'.load= []):TakAt (w.setCell ⟨b,15,none⟩ (.slice none 0 0)) b tb (.slice none 0 0) g':=by
 refine ⟨?_, ?_, ?_⟩
 ·rw [←hc];exact h.blk.set 15 _
 ·rw [h1];exact Blk.far h.tblk (p:=⟨b,15,none⟩) (fun e=>h.ne e.symm) _
 ·rw [h3];exact Row.nil _ _ _
end
structure TS (w0:World) (b tb:Nat) (vl0:Value) (w:World) (vl:Value) (g:Tak):Prop where
 tak:TakAt w b tb vl g
 keep:Keep (TakF b tb vl0) w0 w
 own:∀q,vl.ownBlock=some q→vl0.ownBlock=some q∨w0.heap.size≤q
def TakTo (w0:World) (b tb:Nat) (vl0:Value) (g:Tak) (w:World):Prop:=∃vl,TS w0 b tb vl0 w vl g
section
variable {w0 w w':World} {b tb:Nat} {vl0 vl:Value} {g g':Tak}
theorem TS.start (h:TakAt w b tb vl g):TS w b tb vl w vl g:=⟨h,Keep.refl _ _,fun _ h=> .inl h⟩
theorem TS.to (h:TS w0 b tb vl0 w vl g):TakTo w0 b tb vl0 g w:=⟨vl,h⟩
theorem TS.put (h:TS w0 b tb vl0 w vl g) (j:Nat) (u:Value) (hc:(g.cells tb vl).set j u=g'.cells tb vl) (h1:g'.tab=g.tab) (h3:g'.load=g.load):TS w0 b tb vl0 (w.setCell ⟨b,j,none⟩ u) vl g':=
 ⟨h.tak.put j u hc h1 h3,h.keep.setCell (p:=⟨b,j,none⟩) (fun _=> .inl rfl) u,h.own⟩
theorem TS.noLoad (h:TS w0 b tb vl0 w vl g) (hc:((g.cells tb vl).set 15 (.slice none 0 0))=g'.cells tb (.slice none 0 0)) (h1:g'.tab=g.tab) (h3:g'.load= []):TS w0 b tb vl0 (w.setCell ⟨b,15,none⟩ (.slice none 0 0)) (.slice none 0 0) g':=
 ⟨h.tak.noLoad hc h1 h3,h.keep.setCell (p:=⟨b,15,none⟩) (fun _=> .inl rfl) _,fun q hq=>by simp [Value.ownBlock] at hq⟩
theorem TS.drew (h:TS w0 b tb vl0 w vl g):TS w0 b tb vl0 w.drew vl g:=⟨h.tak.fresh (Below.refl _ w).drew,h.keep.drew,h.own⟩
theorem TS.fresh (h:TS w0 b tb vl0 w vl g) (hb:Below w.heap.size w w'):TS w0 b tb vl0 w' vl g:=⟨h.tak.fresh hb,h.keep.trans' (Keep.ofFresh hb (B:=0)),h.own⟩
theorem TS.keepOne (h:TS w0 b tb vl0 w vl g) (hk:Keep (fun k=>k=b) w w') (hg:TakAt w' b tb vl g'):TS w0 b tb vl0 w' vl g':=
 ⟨hg,h.keep.trans hk (fun k _ e=>by subst e;exact .inl rfl),h.own⟩
theorem TS.table (h:TS w0 b tb vl0 w vl g) {k':Grants.Tb} (ht:Grants.At w' tb k') (hg:w.grownBy w' (some tb)):TS w0 b tb vl0 w' vl { g with tab:=k' }:=by
 have hK:=Keep.grown hg
 refine ⟨⟨h.tak.blk.keep hK (fun e=>h.tak.ne (by injection e with e;exact e.symm)),ht,Row.keep h.tak.load hK (fun q hq e=>Row.ne h.tak.load h.tak.tblk (by decide) (by rw [hq];injection e with e;rw [e]))⟩,h.keep.trans hK (fun q _ e=>by injection e with e;exact .inr (.inl e.symm)),h.own⟩
theorem TS.setLoad (h:TS w0 b tb vl0 w vl g) {vl':Value} {ls:List Nat} (hK:Keep (fun q=>vl.ownBlock=some q) w w') (hR:RowI w' vl' (nats ls)) (hown:∀q,vl'.ownBlock=some q→vl.ownBlock=some q∨w.heap.size≤q):
  TS w0 b tb vl0 (w'.setCell ⟨b,15,none⟩ vl') vl' { g with load:=ls }:=by
 have hb:=h.tak.blk.keep hK (fun e=>Row.ne h.tak.load h.tak.blk (by decide) e)
 have ht:=Blk.keep h.tak.tblk hK (fun e=>Row.ne h.tak.load h.tak.tblk (by decide) e)
 refine ⟨⟨hb.set 15 vl',Blk.far ht (p:=⟨b,15,none⟩) (fun e=>h.tak.ne e.symm) _,Row.far hR hb (by decide) 15 _⟩, ?_, ?_⟩
 ·refine (h.keep.trans hK (fun q hq e=> ?_)).setCell (p:=⟨b,15,none⟩) (fun _=> .inl rfl) vl'
  rcases h.own q e with h1|h1
  ·exact .inr (.inr h1)
  ·omega
 ·intro q hq
  rcases hown q hq with h1|h1
  ·exact h.own q h1
  ·exact .inr (Nat.le_trans h.keep.size h1)
end
section
variable (b tb:Nat) (vl:Value) (g:Tak) (w:World) (h:TakAt w b tb vl g)
include h
set_option maxRecDepth 100000 in
theorem tEpoch_any:
  Calls Tryz.prog 172 #[.pointer (some ⟨b,0,none⟩)] w fun e w'=>e= .returned (.int .i64 g.ep)∧Below w.heap.size w w':=by
 have c4:=h.blk.cell 4
 have c5:=h.blk.cell 5
 simp only [Tak.cells,List.getElem?_cons_zero,List.getElem?_cons_succ] at c4 c5
 have HC:=Lib.hid (add_any g.own g.known)
 show Calls _ _ _ _ fun e w'=>e= .returned (.int .i64 (((g.own:Int)+g.known)%65536))∧_
 clear h
 go_enter Tryz.func172,Tryz.ntmps172
 go_wp2_with fail
 go_region_held3 (fun u=>u.cell? ⟨b,4,none⟩=some (.int .i64 g.own)∧u.cell? ⟨b,5,none⟩=some (.int .i64 g.known))
  (first|exact ⟨c4,c5⟩)
  (first|(go_at_call 103;refine (HC.out _).mono ?_;rintro e w' ⟨rfl,rfl⟩))
 go_wp2_with fail
 go_ret
 exact ⟨rfl,(Below.refl _ w).drew⟩
set_option maxRecDepth 100000 in
theorem tPlace_of (f s i a:Int)
  (E:Calls Tryz.prog 156 #[.agg #[.int .i64 g.base, .int .i64 g.ring], .int .i64 f, .int .i64 s, .int .i64 i] w fun e w'=>e= .returned (.tuple #[.int .i64 a, .bool true])∧Below w.heap.size w w'):
  Calls Tryz.prog 178 #[.pointer (some ⟨b,0,none⟩), .int .i64 f, .int .i64 s, .int .i64 i] w fun e w'=>e= .returned (.int .i64 a)∧Below w.heap.size w w':=by
 have c0:=h.blk.cell 0
 have c1:=h.blk.cell 1
 simp only [Tak.cells,List.getElem?_cons_zero,List.getElem?_cons_succ] at c0 c1
 have HE:=Lib.hid E;clear h E
 go_enter Tryz.func178,Tryz.ntmps178
 go_wp2_with fail
 refine HE.out.mono ?_
 rintro e w1 ⟨rfl,hB⟩
 have HB:=Lib.hid hB;clear hB
 go_wp2_with fail
 go_ret
 exact ⟨rfl,HB.out⟩
set_option maxRecDepth 100000 in
theorem tAsked_any (x:Int):
  Calls Tryz.prog 171 #[.pointer (some ⟨b,0,none⟩), .int .i64 x] w fun e w'=>e= .returned (.int .i64 (g.asked x).pc)∧TakAt w' b tb vl { g with known:=(g.asked x).known }∧Keep (fun k=>k=b) w w':=by
 have c5:=h.blk.cell 5
 have c6:=h.blk.cell 6
 have c14:=h.blk.cell 14
 have f5:=h.blk.free 5
 simp only [Tak.cells,List.getElem?_cons_zero,List.getElem?_cons_succ] at c5 c6 c14
 by_cases hx:x=g.known
 ·have e0:(x == g.known)=true:=by simpa using hx
  by_cases hl:g.linked=true
  ·by_cases hb:g.back=true
   ·have hr:g.asked x= { g with pc:=10 }:=by unfold Tak.asked;rw [if_neg (by simpa using hx),if_pos hl,if_pos hb]
    rw [hr]
    have H:=Lib.hid h;clear h hr hx
    rw [hl] at c6;clear hl
    rw [hb] at c14;clear hb
    go_enter Tryz.func171,Tryz.ntmps171
    go_wp2_with fail
    go_ret
    exact ⟨rfl,H.out,Keep.refl _ _⟩
   ·have hb:g.back=false:=by simpa using hb
    have hr:g.asked x= { g with pc:=6 }:=by unfold Tak.asked;rw [if_neg (by simpa using hx),if_pos hl,if_neg (by rw [hb];simp)]
    rw [hr]
    have H:=Lib.hid h;clear h hr hx
    rw [hl] at c6;clear hl
    rw [hb] at c14;clear hb
    go_enter Tryz.func171,Tryz.ntmps171
    go_wp2_with fail
    go_ret
    exact ⟨rfl,H.out,Keep.refl _ _⟩
  ·have hl:g.linked=false:=by simpa using hl
   have hr:g.asked x= { g with pc:=5 }:=by unfold Tak.asked;rw [if_neg (by simpa using hx),if_neg (by rw [hl];simp)]
   rw [hr]
   have H:=Lib.hid h;clear h hr hx
   rw [hl] at c6;clear hl
   go_enter Tryz.func171,Tryz.ntmps171
   go_wp2_with fail
   go_ret
   exact ⟨rfl,H.out,Keep.refl _ _⟩
 ·have e0:(x == g.known)=false:=by simpa using hx
  have hr:g.asked x= { g with known:=x,pc:=2 }:=by unfold Tak.asked;rw [if_pos hx]
  rw [hr]
  have hp:=h.put (g':= { g with known:=x }) 5 (.int .i64 x) rfl rfl rfl
  have HP:=Lib.hid hp;clear h hr hx hp
  go_enter Tryz.func171,Tryz.ntmps171
  go_wp2_with fail
  go_ret
  exact ⟨rfl,HP.out,Keep.one⟩
end
section
variable (S:SocL) (n W most:Nat) (vs:Nat→Value) (s:Sc) (p c:Nat) (hc:c<n) (hu:upAt s.g c) (b tb:Nat) (vl:Value) (g:Tak) (ok:g.Ok n W) (w:World)
include hc hu ok
set_option maxRecDepth 100000 in
theorem tTouch1 (hpc:g.pc=1) (h:TakAt w b tb vl g) (hd:∀k,TakF b tb vl k→ ¬SocF S n vs k) (hA:Ahead w) (hp:PortAt w S p c) (hs:SocAt w S n W most vs s.m s.q s.g):
  Calls Tryz.prog 170 #[.pointer (some ⟨b,0,none⟩),port p] w fun e w'=>e= .returned (.int .i64 (s.tch most c (.ep g.peer)).2)∧TchTo w S n W most vs c s (.ep g.peer) w':=by
 have cp:=h.blk.cell 10
 simp only [Tak.cells,List.getElem?_cons_zero,List.getElem?_cons_succ,hpc] at cp
 have hb:=(Below.refl w.heap.size w).drew
 have o1:=ok.room
 have o2:=ok.word
 have o3:=ok.r1
 have o4:=ok.r64
 have hk:∀u,TakAt u b tb vl g→u.cell? ⟨b,3,none⟩=some (.int .i64 g.peer):=by
  intro u hu
  exact (by have:=hu.blk.cell 3;simpa [Tak.cells,hpc] using this)
 have hkb:∀u,Below w.heap.size w u→u.cell? ⟨b,3,none⟩=some (.int .i64 g.peer):=fun u hb=>hk u (h.fresh hb)
 have hkt:∀u m q g0,SocTo w S n W most vs m q g0 u→u.cell? ⟨b,3,none⟩=some (.int .i64 g.peer):=fun u m q g0 hT=>hk u (h.soc hd hT)
 have hL:=fun u (hb:Below w.heap.size w u)=>from_soc hb (pEpoch_any S n W most vs s.m s.q s.g p c hc hu g.peer ok.peer u (hp.fresh hb) (hs.fresh hb))
 show Calls _ _ _ _ fun e w'=>e= .returned (.int .i64 (s.g.eps.getD g.peer 0))∧SocTo w S n W most vs (applyAll s.m (s.q c)) (upd s.q c []) s.g w'
 have HL:=Lib.hid hL;clear hL
 have HKB:=Lib.hid hkb;clear hkb
 have HKT:=Lib.hid hkt;clear hkt hk
 have HS:=Lib.hid hs
 clear hs h hp hpc hd hA o1 o2 o3 o4
 have hn:=ahead_epoch p
 have hm:=meth_epoch p
 unfold port
 go_enter Tryz.func170,Tryz.ntmps170
 go_wp2_with fail
 go_region_held3 (fun u=>u.cell? ⟨b,3,none⟩=some (.int .i64 g.peer))
  (first|exact HKB.out _ hb|assumption)
  (first|(go_at_call 180;refine (HL.out _ (by first|assumption|exact hb)).mono ?_;rintro e w3 ⟨rfl,hT3⟩;have hq3:=HKT.out w3 _ _ _ hT3))
 go_wp2_with fail
 all_goals (go_ret;exact ⟨rfl,by assumption⟩)
set_option maxRecDepth 100000 in
theorem tTouch14 (hpc:g.pc=14) (h:TakAt w b tb vl g) (hd:∀k,TakF b tb vl k→ ¬SocF S n vs k) (hA:Ahead w) (hp:PortAt w S p c) (hs:SocAt w S n W most vs s.m s.q s.g):
  Calls Tryz.prog 170 #[.pointer (some ⟨b,0,none⟩),port p] w fun e w'=>e= .returned (.int .i64 (s.tch most c (.ep g.peer)).2)∧TchTo w S n W most vs c s (.ep g.peer) w':=by
 have cp:=h.blk.cell 10
 simp only [Tak.cells,List.getElem?_cons_zero,List.getElem?_cons_succ,hpc] at cp
 have hb:=(Below.refl w.heap.size w).drew
 have o1:=ok.room
 have o2:=ok.word
 have o3:=ok.r1
 have o4:=ok.r64
 have hk:∀u,TakAt u b tb vl g→u.cell? ⟨b,3,none⟩=some (.int .i64 g.peer):=by
  intro u hu
  exact (by have:=hu.blk.cell 3;simpa [Tak.cells,hpc] using this)
 have hkb:∀u,Below w.heap.size w u→u.cell? ⟨b,3,none⟩=some (.int .i64 g.peer):=fun u hb=>hk u (h.fresh hb)
 have hkt:∀u m q g0,SocTo w S n W most vs m q g0 u→u.cell? ⟨b,3,none⟩=some (.int .i64 g.peer):=fun u m q g0 hT=>hk u (h.soc hd hT)
 have hL:=fun u (hb:Below w.heap.size w u)=>from_soc hb (pEpoch_any S n W most vs s.m s.q s.g p c hc hu g.peer ok.peer u (hp.fresh hb) (hs.fresh hb))
 show Calls _ _ _ _ fun e w'=>e= .returned (.int .i64 (s.g.eps.getD g.peer 0))∧SocTo w S n W most vs (applyAll s.m (s.q c)) (upd s.q c []) s.g w'
 have HL:=Lib.hid hL;clear hL
 have HKB:=Lib.hid hkb;clear hkb
 have HKT:=Lib.hid hkt;clear hkt hk
 have HS:=Lib.hid hs
 clear hs h hp hpc hd hA o1 o2 o3 o4
 have hn:=ahead_epoch p
 have hm:=meth_epoch p
 unfold port
 go_enter Tryz.func170,Tryz.ntmps170
 go_wp2_with fail
 go_region_held3 (fun u=>u.cell? ⟨b,3,none⟩=some (.int .i64 g.peer))
  (first|exact HKB.out _ hb|assumption)
  (first|(go_at_call 180;refine (HL.out _ (by first|assumption|exact hb)).mono ?_;rintro e w3 ⟨rfl,hT3⟩;have hq3:=HKT.out w3 _ _ _ hT3))
 go_wp2_with fail
 all_goals (go_ret;exact ⟨rfl,by assumption⟩)
set_option maxRecDepth 100000 in
theorem tTouch5 (hpc:g.pc=5) (h:TakAt w b tb vl g) (hd:∀k,TakF b tb vl k→ ¬SocF S n vs k) (hA:Ahead w) (hp:PortAt w S p c) (hs:SocAt w S n W most vs s.m s.q s.g):
  Calls Tryz.prog 170 #[.pointer (some ⟨b,0,none⟩),port p] w fun e w'=>e= .returned (.int .i64 (s.tch most c (.ld (g.base))).2)∧TchTo w S n W most vs c s (.ld (g.base)) w':=by
 have cp:=h.blk.cell 10
 simp only [Tak.cells,List.getElem?_cons_zero,List.getElem?_cons_succ,hpc] at cp
 have hb:=(Below.refl w.heap.size w).drew
 have o1:=ok.room
 have o2:=ok.word
 have o3:=ok.r1
 have o4:=ok.r64
 have hk:∀u,TakAt u b tb vl g→u.cell? ⟨b,10,none⟩=some (.int .i64 5):=by
  intro u hu
  exact (by have:=hu.blk.cell 10;simpa [Tak.cells,hpc] using this)
 have hkb:∀u,Below w.heap.size w u→u.cell? ⟨b,10,none⟩=some (.int .i64 5):=fun u hb=>hk u (h.fresh hb)
 have hkt:∀u m q g0,SocTo w S n W most vs m q g0 u→u.cell? ⟨b,10,none⟩=some (.int .i64 5):=fun u m q g0 hT=>hk u (h.soc hd hT)
 have e1:((g.base:Int)+1-1)=((g.base:Nat):Int):=by omega
 have hP0:=fun u (hb:Below w.heap.size w u)=>tPlace_of b tb vl g u (h.fresh hb) 1 0 0 _ (plotAt_one g.base g.ring 1 (by omega) (by omega) (by omega) u)
 rw [e1] at hP0
 have hP:=fun u (hb:Below w.heap.size w u)=>from_below hb (hP0 u hb)
 clear hP0
 have hL:=fun u (hb:Below w.heap.size w u)=>from_below hb (pLoad_any S n W most vs s.m s.q s.g p c hc hu (g.base) (by omega) u (hp.fresh hb) (hs.fresh hb))
 show Calls _ _ _ _ fun e w'=>e= .returned (.int .i64 (seen s.m (s.q c) (g.base)))∧SocTo w S n W most vs s.m s.q s.g w'
 generalize seen s.m (s.q c) (g.base)=x at *
 have HL:=Lib.hid hL;clear hL
 have HP:=Lib.hid hP;clear hP
 have HKB:=Lib.hid hkb;clear hkb
 have HKT:=Lib.hid hkt;clear hkt hk
 have HS:=Lib.hid hs
 clear hs h hp hpc hd hA o1 o2 o3 o4 e1
 have hn:=ahead_load p
 have hm:=meth_load p
 unfold port
 go_enter Tryz.func170,Tryz.ntmps170
 go_wp2_with fail
 go_region_held3 (fun u=>u.cell? ⟨b,10,none⟩=some (.int .i64 5))
  (first|exact HKB.out _ hb|assumption)
  (first|(go_at_call 178;refine (HP.out _ (by first|assumption|exact hb)).mono ?_;rintro e w1 ⟨rfl,hB1⟩;have hq1:=HKB.out w1 hB1)|(go_at_call 183;refine (HL.out _ (by first|assumption|exact hb)).mono ?_;rintro e w3 ⟨rfl,hB3⟩;have hq3:=HKB.out w3 hB3))
 go_wp2_with fail
 all_goals (go_ret;exact ⟨rfl,(SocTo.refl HS.out).fresh (by assumption)⟩)
set_option maxRecDepth 100000 in
theorem tTouch6 (hpc:g.pc=6) (h:TakAt w b tb vl g) (hd:∀k,TakF b tb vl k→ ¬SocF S n vs k) (hA:Ahead w) (hp:PortAt w S p c) (hs:SocAt w S n W most vs s.m s.q s.g):
  Calls Tryz.prog 170 #[.pointer (some ⟨b,0,none⟩),port p] w fun e w'=>e= .returned (.int .i64 (s.tch most c (.ld (g.base+2))).2)∧TchTo w S n W most vs c s (.ld (g.base+2)) w':=by
 have cp:=h.blk.cell 10
 simp only [Tak.cells,List.getElem?_cons_zero,List.getElem?_cons_succ,hpc] at cp
 have hb:=(Below.refl w.heap.size w).drew
 have o1:=ok.room
 have o2:=ok.word
 have o3:=ok.r1
 have o4:=ok.r64
 have hk:∀u,TakAt u b tb vl g→u.cell? ⟨b,10,none⟩=some (.int .i64 6):=by
  intro u hu
  exact (by have:=hu.blk.cell 10;simpa [Tak.cells,hpc] using this)
 have hkb:∀u,Below w.heap.size w u→u.cell? ⟨b,10,none⟩=some (.int .i64 6):=fun u hb=>hk u (h.fresh hb)
 have hkt:∀u m q g0,SocTo w S n W most vs m q g0 u→u.cell? ⟨b,10,none⟩=some (.int .i64 6):=fun u m q g0 hT=>hk u (h.soc hd hT)
 have e1:((g.base:Int)+3-1)=((g.base+2:Nat):Int):=by omega
 have hP0:=fun u (hb:Below w.heap.size w u)=>tPlace_of b tb vl g u (h.fresh hb) 3 0 0 _ (plotAt_one g.base g.ring 3 (by omega) (by omega) (by omega) u)
 rw [e1] at hP0
 have hP:=fun u (hb:Below w.heap.size w u)=>from_below hb (hP0 u hb)
 clear hP0
 have hL:=fun u (hb:Below w.heap.size w u)=>from_below hb (pLoad_any S n W most vs s.m s.q s.g p c hc hu (g.base+2) (by omega) u (hp.fresh hb) (hs.fresh hb))
 show Calls _ _ _ _ fun e w'=>e= .returned (.int .i64 (seen s.m (s.q c) (g.base+2)))∧SocTo w S n W most vs s.m s.q s.g w'
 generalize seen s.m (s.q c) (g.base+2)=x at *
 generalize g.base+2=a at *
 have HL:=Lib.hid hL;clear hL
 have HP:=Lib.hid hP;clear hP
 have HKB:=Lib.hid hkb;clear hkb
 have HKT:=Lib.hid hkt;clear hkt hk
 have HS:=Lib.hid hs
 clear hs h hp hpc hd hA o1 o2 o3 o4 e1
 have hn:=ahead_load p
 have hm:=meth_load p
 unfold port
 go_enter Tryz.func170,Tryz.ntmps170
 go_wp2_with fail
 go_region_held3 (fun u=>u.cell? ⟨b,10,none⟩=some (.int .i64 6))
  (first|exact HKB.out _ hb|assumption)
  (first|(go_at_call 178;refine (HP.out _ (by first|assumption|exact hb)).mono ?_;rintro e w1 ⟨rfl,hB1⟩;have hq1:=HKB.out w1 hB1)|(go_at_call 183;refine (HL.out _ (by first|assumption|exact hb)).mono ?_;rintro e w3 ⟨rfl,hB3⟩;have hq3:=HKB.out w3 hB3))
 go_wp2_with fail
 all_goals (go_ret;exact ⟨rfl,(SocTo.refl HS.out).fresh (by assumption)⟩)
end
theorem heldR_len (k:Grants.Tb) (ok:k.Ok):(Grants.heldR k).length≤64:=by
 have:=Grants.heldTo_len k.held k.n.toNat
 have:=ok.n1
 unfold Grants.heldR;omega
theorem owned_read {w:World} {base:Nat} {v:Value} {xs:List Int} (h:w.ownsRow base 3 1 v xs.length (ints xs)):ReadI w v xs:=by
 rcases h.2 with ⟨rfl,h0⟩|⟨g,cap,cur,rfl,hb,hh,hnc,hcm,hcs,htk⟩
 ·have:=List.eq_nil_of_length_eq_zero h0
  subst this
  exact .inl ⟨rfl,none,0,rfl⟩
 ·refine .inr ⟨g,0,cap,rfl,(Array.getElem?_eq_some_iff.1 hh).1,hnc,fun j hj=> ?_⟩
  have:w.cell? ⟨g,0+j,none⟩=cur.toList[j]? := by simp [World.cell?,hh]
  rw [this, ←ints_get xs j hj, ←htk,List.getElem?_take,if_pos (by omega)]
theorem owned_slice {w:World} {base:Nat} {v:Value} {n:Nat} {xs:List Value} (h:w.ownsRow base 3 1 v n xs):∃A c,v= .slice A n c:=by
 rcases h.2 with ⟨rfl,rfl⟩|⟨g,cap,cur,rfl, -⟩
 ·exact ⟨none,0,rfl⟩
 ·exact ⟨_,_,rfl⟩
section
variable (b tb:Nat) (vl:Value) (g:Tak) (w:World) (h:TakAt w b tb vl g)
include h
set_option maxRecDepth 100000 in
theorem tWaiting_any (x:Int) (tok:g.tab.Ok) (hr0:1≤g.ring) (hr:g.ring≤64):
  Calls Tryz.prog 173 #[.pointer (some ⟨b,0,none⟩), .int .i64 x] w fun e w'=>e= .returned (.int .i64 (g.waiting x))∧Below w.heap.size w w':=by
 have c1:=h.blk.cell 1
 have c7:=h.blk.cell 7
 have c9:=h.blk.cell 9
 simp only [Tak.cells,List.getElem?_cons_zero,List.getElem?_cons_succ] at c1 c7 c9
 have hS:=sub_any x g.head
 have hL:=heldR_len g.tab tok
 have hH:=fun u (hb:Below w.heap.size w u)=>Grants.held_any tb g.tab u (h.fresh hb).tab tok
 have hkc:∀u,Below w.heap.size w u→u.cell? ⟨b,1,none⟩=some (.int .i64 g.ring)∧u.cell? ⟨b,9,none⟩=some (.pointer (some ⟨tb,0,none⟩)):=by
  intro u hb
  have:=(h.fresh hb).blk
  exact ⟨by have:=this.cell 1;simpa [Tak.cells] using this,by have:=this.cell 9;simpa [Tak.cells] using this⟩
 have hwr:IntKind.i64.wrap ((g.ring:Int)-((Grants.heldR g.tab).length:Int))=(g.ring:Int)-((Grants.heldR g.tab).length:Int):=by rw [IntKind.wrap_i64];omega
 have HS:=Lib.hid hS;clear hS
 have HH:=Lib.hid hH;clear hH
 have HK:=Lib.hid hkc;clear hkc
 unfold Tak.waiting Tak.held
 clear h
 generalize hn:(x-(g.head:Int))%65536=n at *
 clear hn
 have hb:=(Below.refl w.heap.size w).drew
 by_cases h0:n=0
 ·subst h0
  rw [if_pos rfl]
  go_enter Tryz.func173,Tryz.ntmps173
  go_wp2_with fail
  refine (HS.out _).mono ?_
  rintro e w' ⟨rfl,rfl⟩
  go_wp2_with fail
  go_ret
  exact ⟨rfl,Below.refl _ _⟩
 ·rw [if_neg h0]
  have e0:(n == 0)=false:=by simpa using h0
  clear h0
  by_cases h1:(g.ring:Int)-((Grants.heldR g.tab).length:Int)<n
  ·rw [if_pos h1]
   go_enter Tryz.func173,Tryz.ntmps173
   go_wp2_with fail
   refine (HS.out _).mono ?_
   rintro e w' ⟨rfl,rfl⟩
   go_wp2_with fail
   go_region_held3 (fun u=>u.cell? ⟨b,1,none⟩=some (.int .i64 g.ring)∧u.cell? ⟨b,9,none⟩=some (.pointer (some ⟨tb,0,none⟩)))
    (first|exact HK.out _ hb|assumption)
    (first|(go_at_call 175;refine (HH.out _ hb).mono ?_;rintro e w1 ⟨v1,rfl,hown,hb1⟩;obtain ⟨A1,k1,hv1⟩:=owned_slice hown;subst hv1;have hq:=HK.out w1 (hb.trans (hb1.mono hb.size))))
   go_wp2_with fail
   go_ret
   exact ⟨rfl,hb.trans (hb1.mono hb.size)⟩
  ·rw [if_neg h1]
   have h1':n≤(g.ring:Int)-((Grants.heldR g.tab).length:Int):=by omega
   clear h1
   go_enter Tryz.func173,Tryz.ntmps173
   go_wp2_with fail
   refine (HS.out _).mono ?_
   rintro e w' ⟨rfl,rfl⟩
   go_wp2_with fail
   go_region_held3 (fun u=>u.cell? ⟨b,1,none⟩=some (.int .i64 g.ring)∧u.cell? ⟨b,9,none⟩=some (.pointer (some ⟨tb,0,none⟩)))
    (first|exact HK.out _ hb|assumption)
    (first|(go_at_call 175;refine (HH.out _ hb).mono ?_;rintro e w1 ⟨v1,rfl,hown,hb1⟩;obtain ⟨A1,k1,hv1⟩:=owned_slice hown;subst hv1;have hq:=HK.out w1 (hb.trans (hb1.mono hb.size))))
   go_wp2_with fail
   go_ret
   exact ⟨rfl,hb.trans (hb1.mono hb.size)⟩
set_option maxRecDepth 100000 in
theorem tFirst_any (tok:g.tab.Ok):
  Calls Tryz.prog 169 #[.pointer (some ⟨b,0,none⟩)] w fun e w'=>e= .returned (.tuple #[])∧TakTo w b tb vl g.first w':=by
 have c6:=h.blk.cell 6
 have c7:=h.blk.cell 7
 have c8:=h.blk.cell 8
 have c9:=h.blk.cell 9
 have c10:=h.blk.cell 10
 have c15:=h.blk.cell 15
 have c16:=h.blk.cell 16
 simp only [Tak.cells,List.getElem?_cons_zero,List.getElem?_cons_succ] at c6 c7 c8 c9 c10 c15 c16
 have f6:=h.blk.free 6
 have f7:=h.blk.free 7
 have f8:=h.blk.free 8
 have f10:=h.blk.free 10
 have f15:=h.blk.free 15
 have f16:=h.blk.free 16
 have hs:=((((((TS.start h).put (g':= { g with linked:=false }) 6 (.bool false) rfl rfl rfl).put (g':= { g with linked:=false,head:=0 }) 7 (.int .i64 0) rfl rfl rfl).put (g':= { g with linked:=false,head:=0,used:=0 }) 8 (.int .i64 0) rfl rfl rfl).put (g':= { g with linked:=false,head:=0,used:=0,pc:=0 }) 10 (.int .i64 0) rfl rfl rfl).noLoad (g':= { g with linked:=false,head:=0,used:=0,pc:=0,load:= [] }) rfl rfl rfl).put (g':= { g with linked:=false,head:=0,used:=0,pc:=0,load:= [],got:=0 }) 16 (.int .i64 0) rfl rfl rfl
 have HS:=Lib.hid hs
 have HC:=Lib.hid (Grants.clear_any tb g.tab _ hs.tak.tab tok)
 obtain ⟨Al,cl,hvl, -, -⟩:=Row.slice h.load
 clear h hs
 subst hvl
 go_enter Tryz.func169,Tryz.ntmps169
 go_wp2_with fail
 refine HC.out.mono ?_
 rintro e w' ⟨rfl,ht,hg⟩
 have HF:=Lib.hid (HS.out.table ht hg);clear ht hg
 go_wp2_with fail
 go_end0
 exact ⟨rfl,_,HF.out⟩
set_option maxRecDepth 100000 in
theorem tBegin_any (y:Bool):
  Calls Tryz.prog 92 #[.pointer (some ⟨b,0,none⟩), .bool y] w fun e w'=>e= .returned (.tuple #[])∧TS w b tb vl w' (.slice none 0 0) (g.begin_ y):=by
 have c10:=h.blk.cell 10
 have c14:=h.blk.cell 14
 have c15:=h.blk.cell 15
 have c16:=h.blk.cell 16
 simp only [Tak.cells,List.getElem?_cons_zero,List.getElem?_cons_succ] at c10 c14 c15 c16
 have f10:=h.blk.free 10
 have f14:=h.blk.free 14
 have f15:=h.blk.free 15
 have f16:=h.blk.free 16
 have hs:=((((TS.start h).put (g':= { g with pc:=1 }) 10 (.int .i64 1) rfl rfl rfl).put (g':= { g with pc:=1,back:=y }) 14 (.bool y) rfl rfl rfl).noLoad (g':= { g with pc:=1,back:=y,load:= [] }) rfl rfl rfl).put (g':=g.begin_ y) 16 (.int .i64 0) rfl rfl rfl
 have HS:=Lib.hid hs
 obtain ⟨Al,cl,hvl, -, -⟩:=Row.slice h.load
 clear h hs
 subst hvl
 go_enter Tryz.func92,Tryz.ntmps92
 go_wp2_with fail
 go_end0
 exact ⟨rfl,HS.out⟩
set_option maxRecDepth 100000 in
theorem tWrong_any:
  Calls Tryz.prog 91 #[.pointer (some ⟨b,0,none⟩)] w fun e w'=>e= .returned (.int .i64 (if g.pc=0 then 0 else 11))∧w=w':=by
 have c10:=h.blk.cell 10
 simp only [Tak.cells,List.getElem?_cons_zero,List.getElem?_cons_succ] at c10
 clear h
 by_cases h0:g.pc=0
 ·rw [if_pos h0]
  rw [h0] at c10;clear h0
  go_enter Tryz.func91,Tryz.ntmps91
  go_wp2_with fail
  go_ret
  exact ⟨rfl,rfl⟩
 ·rw [if_neg h0]
  have e0:((g.pc:Int) == 0)=false:=by rw [beq_eq_false_iff_ne];omega
  clear h0
  go_enter Tryz.func91,Tryz.ntmps91
  go_wp2_with fail
  go_ret
  exact ⟨rfl,rfl⟩
set_option maxRecDepth 100000 in
theorem tRecv_any:
  Calls Tryz.prog 53 #[.pointer (some ⟨b,0,none⟩)] w fun e w'=>e= .returned (.int .i64 g.recv.2)∧TakTo w b tb vl g.recv.1 w':=by
 have hW:=tWrong_any b tb vl g w h
 have hB:=tBegin_any b tb vl g w h false
 have hR:=(TS.start h).to
 by_cases h0:g.pc=0
 ·have hr:g.recv=(g.begin_ false,0):=by unfold Tak.recv;rw [if_neg (by simpa using h0)]
  rw [hr]
  rw [if_pos h0] at hW
  have HW:=Lib.hid hW
  have HB:=Lib.hid hB
  clear hW hB h hr h0 hR
  go_enter Tryz.func53,Tryz.ntmps53
  go_wp2_with fail
  refine HW.out.mono ?_
  rintro e w' ⟨rfl,rfl⟩
  go_wp2_with fail
  refine HB.out.mono ?_
  rintro e w' ⟨rfl,hT⟩
  have HT:=Lib.hid hT;clear hT
  go_wp2_with fail
  go_ret
  exact ⟨rfl,HT.out.to⟩
 ·have hr:g.recv=(g,11):=by unfold Tak.recv;rw [if_pos h0]
  rw [hr]
  rw [if_neg h0] at hW
  have HW:=Lib.hid hW
  have HR:=Lib.hid hR
  clear hW hB h hr h0 hR
  go_enter Tryz.func53,Tryz.ntmps53
  go_wp2_with fail
  refine HW.out.mono ?_
  rintro e w' ⟨rfl,rfl⟩
  go_wp2_with fail
  go_ret
  exact ⟨rfl,HR.out⟩
end
section
variable (b tb:Nat) (vl:Value) (g:Tak) (w:World) (h:TakAt w b tb vl g)
include h
set_option maxRecDepth 100000 in
theorem tEnd_any (x:Int) (tok:g.tab.Ok):
  Calls Tryz.prog 176 #[.pointer (some ⟨b,0,none⟩), .int .i64 x] w fun e w'=>e= .returned (.int .i64 (g.over x).2)∧TakTo w b tb vl (g.over x).1 w':=by
 have c5:=h.blk.cell 5
 have c7:=h.blk.cell 7
 have c8:=h.blk.cell 8
 have c9:=h.blk.cell 9
 have c10:=h.blk.cell 10
 have c11:=h.blk.cell 11
 have c13:=h.blk.cell 13
 have c14:=h.blk.cell 14
 have c15:=h.blk.cell 15
 have c16:=h.blk.cell 16
 simp only [Tak.cells,List.getElem?_cons_zero,List.getElem?_cons_succ] at c5 c7 c8 c9 c10 c11 c13 c14 c15 c16
 have f7:=h.blk.free 7
 have f8:=h.blk.free 8
 have f10:=h.blk.free 10
 have f15:=h.blk.free 15
 have f16:=h.blk.free 16
 have hp:=(TS.start h).put (g':= { g with pc:=0 }) 10 (.int .i64 0) rfl rfl rfl
 obtain ⟨Al,cl,hvl, -, -⟩:=Row.slice h.load
 by_cases hx:x=g.known
 ·have e0:(x == g.known)=true:=by simpa using hx
  by_cases ha:g.answer=0
  ·have e1:(g.answer == 0)=true:=by simpa using ha
   have e1':(g.answer != 0)=false:=by simp [ha]
   by_cases hb:g.back=true
   ·have hr:g.over x=({ g with pc:=0,used:=(g.used+1)%65536 },g.answer):=by unfold Tak.over;simp [hx,ha,hb]
    have he:(((g.used:Int)+1)%65536)=(((g.used+1)%65536:Nat):Int):=by omega
    have hp2:=hp.put (g':= { g with pc:=0,used:=(g.used+1)%65536 }) 8 (.int .i64 ((g.used+1)%65536:Nat)) rfl rfl rfl
    have hA:=fun w=>add_any g.used 1 w
    rw [he] at hA
    rw [hr]
    have HA:=Lib.hid hA;clear hA
    rw [hb] at c14
    have HP:=Lib.hid hp2;clear h hr hx hp hp2 he ha hb
    subst hvl
    go_enter Tryz.func176,Tryz.ntmps176
    go_wp2_with fail
    refine (HA.out _).mono ?_
    rintro e w' ⟨rfl,rfl⟩
    go_wp2_with fail
    go_ret
    exact ⟨rfl,HP.out.to⟩
   ·have hb:g.back=false:=by simpa using hb
    have hr:g.over x=({ g with pc:=0,head:=(g.head+1)%65536,got:=(Grants.giveR g.tab g.d).2.1,tab:=(Grants.giveR g.tab g.d).1 },g.answer):=by unfold Tak.over;simp [hx,ha,hb]
    have he:(((g.head:Int)+1)%65536)=(((g.head+1)%65536:Nat):Int):=by omega
    have hp2:=hp.put (g':= { g with pc:=0,head:=(g.head+1)%65536 }) 7 (.int .i64 ((g.head+1)%65536:Nat)) rfl rfl rfl
    have hA:=fun w=>add_any g.head 1 w
    rw [he] at hA
    rw [hr]
    have HA:=Lib.hid hA;clear hA
    have hG:=fun u (hu:TS w b tb vl u vl { g with pc:=0,head:=(g.head+1)%65536 })=>Grants.give_any tb g.d g.tab u hu.tak.tab tok
    generalize hgr:Grants.giveR g.tab g.d=gr at *
    obtain ⟨tb',got',okk⟩:=gr
    have HG:=Lib.hid hG;clear hG hgr
    rw [hb] at c14
    have HP:=Lib.hid hp2;clear h hr hx hp hp2 he ha hb
    have hkt:∀u,TS w b tb vl u vl { g with pc:=0,head:=(g.head+1)%65536 }→u.cell? ⟨b,9,none⟩=some (.pointer (some ⟨tb,0,none⟩))∧u.cell? ⟨b,11,none⟩=some (.int .i64 g.d):=by
     intro u hu
     exact ⟨by have:=hu.tak.blk.cell 9;simpa [Tak.cells] using this,by have:=hu.tak.blk.cell 11;simpa [Tak.cells] using this⟩
    have HK:=Lib.hid hkt;clear hkt
    subst hvl
    go_enter Tryz.func176,Tryz.ntmps176
    go_wp2_with fail
    refine (HA.out _).mono ?_
    rintro e w' ⟨rfl,rfl⟩
    go_wp2_with fail
    go_region_held3 (fun u=>u.cell? ⟨b,9,none⟩=some (.pointer (some ⟨tb,0,none⟩))∧u.cell? ⟨b,11,none⟩=some (.int .i64 g.d))
     (first|exact HK.out _ HP.out.drew|assumption|exact ⟨HF.out.tak.blk.cell 9,HF.out.tak.blk.cell 11⟩)
     (first|(go_at_call 179;refine (HG.out _ HP.out.drew).mono ?_;rintro e w' ⟨rfl,hat,hgr⟩;have hs:=HP.out.drew.table hat hgr;have hf:=hs.put (g':= { g with pc:=0,head:=(g.head+1)%65536,got:=got',tab:=tb' }) 16 (.int .i64 got') rfl rfl rfl;have c13':w'.cell? ⟨b,13,none⟩=some (.int .i64 g.answer):=hs.tak.blk.cell 13;have c16':w'.cell? ⟨b,16,none⟩=some (.int .i64 g.got):=hs.tak.blk.cell 16;have f16':=hs.tak.blk.free 16;have hq:w'.cell? ⟨b,9,none⟩=some (.pointer (some ⟨tb,0,none⟩))∧w'.cell? ⟨b,11,none⟩=some (.int .i64 g.d):=⟨hs.tak.blk.cell 9,hs.tak.blk.cell 11⟩;have HF:=Lib.hid hf;clear hf hs hat hgr))
    go_wp2_with fail
    go_ret
    exact ⟨rfl,HF.out.to⟩
  ·have e1:(g.answer == 0)=false:=by simpa using ha
   have e1':(g.answer != 0)=true:=by simpa using ha
   have hr:g.over x=({ g with pc:=0,load:= [] },g.answer):=by unfold Tak.over;simp [hx,ha]
   rw [hr]
   have hp2:=hp.noLoad (g':= { g with pc:=0,load:= [] }) rfl rfl rfl
   have HP:=Lib.hid hp2;clear h hr hx hp hp2 ha
   subst hvl
   go_enter Tryz.func176,Tryz.ntmps176
   go_wp2_with fail
   go_ret
   exact ⟨rfl,HP.out.to⟩
 ·have e0:(x == g.known)=false:=by simpa using hx
  have hr:g.over x=({ g with pc:=0,load:= [] },8):=by unfold Tak.over;simp [hx]
  rw [hr]
  have hp2:=hp.noLoad (g':= { g with pc:=0,load:= [] }) rfl rfl rfl
  have HP:=Lib.hid hp2;clear h hr hx hp hp2
  subst hvl
  go_enter Tryz.func176,Tryz.ntmps176
  go_wp2_with fail
  go_ret
  exact ⟨rfl,HP.out.to⟩
set_option maxRecDepth 100000 in
theorem tHas_any:
  Calls Tryz.prog 86 #[.pointer (some ⟨b,0,none⟩)] w fun e w'=>e= .returned (.bool (decide (g.pc=0∧g.got≠0)))∧w=w':=by
 have c10:=h.blk.cell 10
 have c16:=h.blk.cell 16
 simp only [Tak.cells,List.getElem?_cons_zero,List.getElem?_cons_succ] at c10 c16
 clear h
 by_cases h0:g.pc=0
 ·rw [h0] at c10
  by_cases h1:g.got=0
  ·have e1:(g.got != 0)=false:=by simp [h1]
   have hr:decide (g.pc=0∧g.got≠0)=false:=by simp [h1]
   rw [hr]
   clear h0 h1 hr
   go_enter Tryz.func86,Tryz.ntmps86
   go_wp2_with fail
   go_ret
   exact ⟨by simp [e1],rfl⟩
  ·have e1:(g.got != 0)=true:=by simpa using h1
   have hr:decide (g.pc=0∧g.got≠0)=true:=by simp [h0,h1]
   rw [hr]
   clear h0 h1 hr
   go_enter Tryz.func86,Tryz.ntmps86
   go_wp2_with fail
   go_ret
   exact ⟨by simp [e1],rfl⟩
 ·have e0:((g.pc:Int) == 0)=false:=by rw [beq_eq_false_iff_ne];omega
  have hr:decide (g.pc=0∧g.got≠0)=false:=by simp [h0]
  rw [hr]
  clear h0 hr
  go_enter Tryz.func86,Tryz.ntmps86
  go_wp2_with fail
  go_ret
  exact ⟨by simp [e0],rfl⟩
set_option maxRecDepth 100000 in
theorem tGot_any (hl:g.load.length≤1000):
  Calls Tryz.prog 50 #[.pointer (some ⟨b,0,none⟩)] w fun e w'=>∃v',e= .returned (.tuple #[v', .int .i64 g.gotR.2])∧RowI w' v' (nats g.gotR.1)∧(∀k,v'.ownBlock=some k→w.heap.size≤k)∧Below w.heap.size w w':=by
 have c15:=h.blk.cell 15
 have c16:=h.blk.cell 16
 simp only [Tak.cells,List.getElem?_cons_zero,List.getElem?_cons_succ] at c15 c16
 have hH:=tHas_any b tb vl g w h
 by_cases h0:g.pc=0∧g.got≠0
 ·have hr:g.gotR=(g.load,g.got):=by unfold Tak.gotR;rw [if_pos h0]
  rw [hr]
  rw [decide_eq_true h0] at hH
  have hC:=fun u (hb:Below w.heap.size w u)=>clone_any vl (nats g.load) (by rw [nats_len];exact hl) u (RowI.read (h.fresh hb).load)
  have hkeep:∀u,Below w.heap.size w u→u.cell? ⟨b,15,none⟩=some vl∧u.cell? ⟨b,16,none⟩=some (.int .i64 g.got):=fun u hb=>by
   have h1:=(h.fresh hb).blk.cell 15
   have h2:=(h.fresh hb).blk.cell 16
   exact ⟨by simpa [Tak.cells] using h1,by simpa [Tak.cells] using h2⟩
  obtain ⟨Al,cl,hvl, -, -⟩:=Row.slice h.load
  have HH:=Lib.hid hH
  have HC:=Lib.hid hC
  have HK:=Lib.hid hkeep
  have hb:=(Below.refl w.heap.size w).drew
  clear h hH hC hr h0 hl hkeep
  subst hvl
  go_enter Tryz.func50,Tryz.ntmps50
  go_wp2_with fail
  refine HH.out.mono ?_
  rintro e w' ⟨rfl,rfl⟩
  go_wp2_with fail
  go_region_held3 (fun u=>u.cell? ⟨b,15,none⟩=some (.slice Al (nats g.load).length cl)∧u.cell? ⟨b,16,none⟩=some (.int .i64 g.got))
   (first|exact HK.out _ hb|assumption)
   (first|(go_at_call 30;refine (HC.out _ hb).mono ?_;rintro e w1 ⟨v1,rfl,hR,ho,hb1⟩;have hq:=HK.out w1 (hb.trans (hb1.mono hb.size))))
  go_wp2_with fail
  go_ret2
  exact ⟨_,rfl,hR,fun k hk=>ho k hk,hb.trans (hb1.mono hb.size)⟩
 ·have hr:g.gotR=([],0):=by unfold Tak.gotR;rw [if_neg h0]
  rw [hr]
  rw [decide_eq_false h0] at hH
  have HH:=Lib.hid hH
  clear h hH hr h0
  go_enter Tryz.func50,Tryz.ntmps50
  go_wp2_with fail
  refine HH.out.mono ?_
  rintro e w' ⟨rfl,rfl⟩
  go_wp2_with fail
  go_ret2
  exact ⟨_,rfl,Row.nil _ _ _,fun k hk=>by simp [Value.ownBlock] at hk,Below.refl _ _⟩
set_option maxRecDepth 100000 in
theorem tRelease_any (x:Int) (tok:g.tab.Ok):
  Calls Tryz.prog 54 #[.pointer (some ⟨b,0,none⟩), .int .i64 x] w fun e w'=>e= .returned (.int .i64 (g.release x).2)∧TakTo w b tb vl (g.release x).1 w':=by
 have hW:=tWrong_any b tb vl g w h
 have hR:=(TS.start h).to
 have c9:=h.blk.cell 9
 simp only [Tak.cells,List.getElem?_cons_zero,List.getElem?_cons_succ] at c9
 by_cases h0:g.pc=0
 ·rw [if_pos h0] at hW
  have hS:=Grants.slot_any tb x g.tab w h.tab tok
  have hD:=Grants.drop_any tb x g.tab w h.tab tok
  generalize hdr:Grants.dropR g.tab x=dr at *
  generalize hsr:Grants.slotR g.tab x=sr at *
  obtain ⟨tb',er⟩:=dr
  obtain ⟨sl,okk⟩:=sr
  have hsl:0≤sl:=by
   unfold Grants.slotR at hsr
   split at hsr<;>(injection hsr with q1 q2;omega)
  by_cases he:er=0
  ·have hr:g.release x=({ ({ g with tab:=tb' }:Tak).begin_ true with d:=sl.toNat },0):=by unfold Tak.release;rw [if_neg (by simpa using h0),hdr,hsr];simp [he]
   rw [hr]
   have e1:(er != 0)=false:=by simp [he]
   have HW:=Lib.hid hW
   have HS:=Lib.hid hS
   have HD:=Lib.hid hD
   have H:=Lib.hid h
   have HSL:=Lib.hid hsl
   clear hW hS hD h hr hR h0 hdr hsr he hsl
   go_enter Tryz.func54,Tryz.ntmps54
   go_wp2_with fail
   refine HW.out.mono ?_
   rintro e w' ⟨rfl,rfl⟩
   go_wp2_with fail
   refine HS.out.mono ?_
   rintro e w' ⟨rfl,rfl⟩
   go_wp2_with fail
   refine HD.out.mono ?_
   rintro e w1 ⟨rfl,hat,hgr⟩
   have hs:=(TS.start H.out).table hat hgr
   have HB:=Lib.hid (tBegin_any b tb vl _ w1 hs.tak true)
   have HS1:=Lib.hid hs;clear hs hat hgr
   go_wp2_with fail
   refine HB.out.mono ?_
   rintro e w2 ⟨rfl,hT⟩
   have hall:TS w b tb vl w2 (.slice none 0 0) (({ g with tab:=tb' }:Tak).begin_ true):=⟨hT.tak,HS1.out.keep.trans' hT.keep,fun q hq=>by simp [Value.ownBlock] at hq⟩
   have hsl2:((sl.toNat:Nat):Int)=sl:=by have:=HSL.out;omega
   have hfin:=hall.put (g':= { ({ g with tab:=tb' }:Tak).begin_ true with d:=sl.toNat }) 11 (.int .i64 sl) (by simp only [Tak.cells,hsl2];rfl) rfl rfl
   clear hsl2
   have c11:=hall.tak.blk.cell 11
   simp only [Tak.cells,List.getElem?_cons_zero,List.getElem?_cons_succ] at c11
   have f11:=hall.tak.blk.free 11
   have HF:=Lib.hid hfin;clear hfin hall hT
   go_wp2_with fail
   go_ret
   exact ⟨rfl,HF.out.to⟩
  ·have hr:g.release x=({ g with tab:=tb' },er):=by unfold Tak.release;rw [if_neg (by simpa using h0),hdr,hsr];simp [he]
   rw [hr]
   have e1:(er != 0)=true:=by simpa using he
   have HW:=Lib.hid hW
   have HS:=Lib.hid hS
   have HD:=Lib.hid hD
   have H:=Lib.hid h
   clear hW hS hD h hr hR h0 hdr hsr he hsl
   go_enter Tryz.func54,Tryz.ntmps54
   go_wp2_with fail
   refine HW.out.mono ?_
   rintro e w' ⟨rfl,rfl⟩
   go_wp2_with fail
   refine HS.out.mono ?_
   rintro e w' ⟨rfl,rfl⟩
   go_wp2_with fail
   refine HD.out.mono ?_
   rintro e w1 ⟨rfl,hat,hgr⟩
   have HS1:=Lib.hid ((TS.start H.out).table hat hgr);clear hat hgr
   go_wp2_with fail
   go_ret
   exact ⟨rfl,HS1.out.to⟩
 ·have hr:g.release x=(g,11):=by unfold Tak.release;rw [if_pos h0]
  rw [hr]
  rw [if_neg h0] at hW
  have HW:=Lib.hid hW
  have HR:=Lib.hid hR
  clear hW h hr h0 hR
  go_enter Tryz.func54,Tryz.ntmps54
  go_wp2_with fail
  refine HW.out.mono ?_
  rintro e w' ⟨rfl,rfl⟩
  go_wp2_with fail
  go_ret
  exact ⟨rfl,HR.out⟩
end
theorem wp_scope_two {P:Program} {Q:Exit→Act→World→Prop} {a:Act} {w:World} {c r1 r2:Code} (l1 l2:Nat) (hf1:findLabel c l1=some r1) (hf2:findLabel c l2=some r2)
  (first:c.wp P (Exit.jump l1 (fun a' w'=>r1.wp P (Exit.jump l2 (fun a2 w2=>r2.wp P (Exit.noGoto Q) a2 w2) Q) a' w') Q) a w):(Code.scope c).wp P Q a w:=by
 intro b k cs
 have key:∀(l:Nat) (r:Code) (J:Act→World→Prop) (c0:Code) (a:Act) (w:World),findLabel c l=some r→c0.wp P (Exit.jump l J Q) a w→
   (∀a w,J a w→∃e a' w',Q e a' w'∧Arrives P (lone (b.at a (.code r :: .inScope c :: k)) cs w) b k cs e a' w')→
   ∃e a' w',Q e a' w'∧Arrives P (lone (b.at a (.code c0 :: .inScope c :: k)) cs w) b k cs e a' w':=by
  intro l r J c0 a w hf h hJ
  have hg:gotoIn l (.inScope c :: k)=some (.code r :: .inScope c :: k):=by simp [gotoIn,hf]
  obtain ⟨e,a₁,w₁,hq,harr⟩:=h b (.inScope c :: k) cs
  cases e with
  | normal=>exact ⟨.normal,a₁,w₁,hq,Steps.trans harr (.one step_inScope)⟩
  | exit id=>exact ⟨.exit id,a₁,w₁,hq,fun k' hk=>harr k' (by simp [exitTo,hk])⟩
  | goto l'=>
   obtain ⟨rfl,hJ'⟩:=hq
   obtain ⟨e₂,a₂,w₂,hq₂,harr₂⟩:=hJ a₁ w₁ hJ'
   exact ⟨e₂,a₂,w₂,hq₂, .of_steps (harr _ hg) harr₂⟩
  | ret=>exact ⟨_,a₁,w₁,hq,harr⟩
  | panic ch=>exact ⟨_,a₁,w₁,hq,harr⟩
  | outgrown=>exact ⟨_,a₁,w₁,hq,harr⟩
 have last:∀a w,r2.wp P (Exit.noGoto Q) a w→∃e a' w',Q e a' w'∧Arrives P (lone (b.at a (.code r2 :: .inScope c :: k)) cs w) b k cs e a' w':=fun a w h=>
  key l2 r2 (fun _ _=>False) r2 a w hf2 (Code.wp_mono (fun e a' w' h=>by cases e<;>first|exact h|exact (h:False).elim) h) (fun _ _ h=>h.elim)
 obtain ⟨e,a',w',hq,harr⟩:=key l1 r1 _ c a w hf1 first (fun a w h=>key l2 r2 _ r1 a w hf2 h last)
 exact ⟨e,a',w',hq, .of_steps (.one step_scope) harr⟩
section
variable (b tb:Nat) (vl:Value) (g:Tak) (w:World) (p:Value) (x:Int) (T:World→Prop) (h:TakAt w b tb vl g) (hT:Calls Tryz.prog 170 #[.pointer (some ⟨b,0,none⟩),p] w fun e w'=>e= .returned (.int .i64 x)∧T w') (hg:∀w',T w'→TakAt w' b tb vl g)
include h hT hg
set_option maxRecDepth 100000 in
theorem tStep1 (hpc:g.pc=1)  :
  Calls Tryz.prog 168 #[.pointer (some ⟨b,0,none⟩),p] w fun e w'=>e= .returned (.tuple #[.bool false, .int .i64 0])∧∃w1,T w1∧TakTo w1 b tb vl (g.asked x) w':=by
 have c10:=h.blk.cell 10
 simp only [Tak.cells,List.getElem?_cons_zero,List.getElem?_cons_succ,hpc] at c10
 have HT:=Lib.hid hT;clear hT
 have HG:=Lib.hid hg;clear hg h
 go_enter Tryz.func168,Tryz.ntmps168
 go_wp2_with fail
 go_step3
 go_wp2_with fail
 refine HT.out.mono ?_
 rintro e w1 ⟨rfl,ht⟩
 have hw1:=HG.out w1 ht
 have HW:=Lib.hid ht;clear ht
 have c10:=hw1.blk.cell 10
 simp only [Tak.cells,List.getElem?_cons_zero,List.getElem?_cons_succ,hpc] at c10
 have hs1:=TS.start hw1;clear hw1
 have HA:=Lib.hid (tAsked_any b tb vl g w1 hs1.tak x)
 have HS1:=Lib.hid hs1;clear hs1
 go_wp2_with fail
 refine HA.out.mono ?_
 rintro e w2 ⟨rfl,h2,hk2⟩
 have c10:w2.cell? ⟨b,10,none⟩=some (.int .i64 g.pc):=h2.blk.cell 10
 have f10:=h2.blk.free 10
 have hfin:=(HS1.out.keepOne hk2 h2).put (g':=g.asked x) 10 (.int .i64 (g.asked x).pc) (by unfold Tak.asked Tak.cells;split<;>(try split)<;>(try split)<;>rfl) (by unfold Tak.asked;split<;>(try split)<;>(try split)<;>rfl) (by unfold Tak.asked;split<;>(try split)<;>(try split)<;>rfl)
 have HF:=Lib.hid hfin;clear hfin h2 hk2 hpc
 go_wp2_with fail
 rw [Exit.noGoto_ret]
 go_ret2
 exact ⟨rfl,w1,HW.out,HF.out.to⟩
set_option maxRecDepth 100000 in
theorem tStep4 (hpc:g.pc=4) (tok:g.tab.Ok):
  Calls Tryz.prog 168 #[.pointer (some ⟨b,0,none⟩),p] w fun e w'=>e= .returned (.tuple #[.bool true, .int .i64 8])∧∃w1,T w1∧TakTo w1 b tb vl (g.first) w':=by
 have c10:=h.blk.cell 10
 simp only [Tak.cells,List.getElem?_cons_zero,List.getElem?_cons_succ,hpc] at c10
 have HT:=Lib.hid hT;clear hT
 have HG:=Lib.hid hg;clear hg h
 go_enter Tryz.func168,Tryz.ntmps168
 go_wp2_with fail
 go_step3
 go_wp2_with fail
 refine HT.out.mono ?_
 rintro e w1 ⟨rfl,ht⟩
 have hw1:=HG.out w1 ht
 have HW:=Lib.hid ht;clear ht
 have c10:=hw1.blk.cell 10
 simp only [Tak.cells,List.getElem?_cons_zero,List.getElem?_cons_succ,hpc] at c10
 have hs1:=TS.start hw1;clear hw1
 have HA:=Lib.hid (tFirst_any b tb vl g w1 hs1.tak tok)
 have HS1:=Lib.hid hs1;clear hs1
 go_wp2_with fail
 refine HA.out.mono ?_
 rintro e w2 ⟨rfl,h2⟩
 have HF:=Lib.hid h2;clear h2
 go_wp2_with fail
 rw [Exit.noGoto_ret]
 go_ret2
 exact ⟨rfl,w1,HW.out,HF.out⟩
set_option maxRecDepth 100000 in
theorem tStep5y (hpc:g.pc=5) (hx:x=g.ep):
  Calls Tryz.prog 168 #[.pointer (some ⟨b,0,none⟩),p] w fun e w'=>e= .returned (.tuple #[.bool false, .int .i64 0])∧∃w1,T w1∧TakTo w1 b tb vl ({ g with linked:=true,pc:=6 }) w':=by
 have c10:=h.blk.cell 10
 simp only [Tak.cells,List.getElem?_cons_zero,List.getElem?_cons_succ,hpc] at c10
 subst hx
 have HT:=Lib.hid hT;clear hT
 have HG:=Lib.hid hg;clear hg h
 go_enter Tryz.func168,Tryz.ntmps168
 go_wp2_with fail
 go_step3
 go_wp2_with fail
 refine HT.out.mono ?_
 rintro e w1 ⟨rfl,ht⟩
 have hw1:=HG.out w1 ht
 have HW:=Lib.hid ht;clear ht
 have c10:=hw1.blk.cell 10
 simp only [Tak.cells,List.getElem?_cons_zero,List.getElem?_cons_succ,hpc] at c10
 have hs1:=TS.start hw1;clear hw1
 have HE:=Lib.hid (from_below (Below.refl w1.heap.size w1) (tEpoch_any b tb vl g w1 hs1.tak))
 have HS1:=Lib.hid hs1;clear hs1
 generalize hge:g.ep=gep at *
 clear hge
 go_wp2_with fail
 refine HE.out.mono ?_
 rintro e w2 ⟨rfl,hb2⟩
 have hs2:=HS1.out.fresh hb2
 clear hb2 c10
 have c6:=hs2.tak.blk.cell 6
 have c10:=hs2.tak.blk.cell 10
 simp only [Tak.cells,List.getElem?_cons_zero,List.getElem?_cons_succ] at c6 c10
 have f6:=hs2.tak.blk.free 6
 have f10:=hs2.tak.blk.free 10
 have HF:=Lib.hid ((hs2.put (g':= { g with linked:=true }) 6 (.bool true) rfl rfl rfl).put (g':= { g with linked:=true,pc:=6 }) 10 (.int .i64 6) rfl rfl rfl);clear hs2
 go_wp2_with fail
 rw [Exit.noGoto_ret]
 go_ret2
 exact ⟨rfl,w1,HW.out,HF.out.to⟩
set_option maxRecDepth 100000 in
theorem tStep5n (hpc:g.pc=5) (hx:x≠g.ep):
  Calls Tryz.prog 168 #[.pointer (some ⟨b,0,none⟩),p] w fun e w'=>e= .returned (.tuple #[.bool true, .int .i64 9])∧∃w1,T w1∧TakTo w1 b tb vl ({ g with pc:=0 }) w':=by
 have c10:=h.blk.cell 10
 simp only [Tak.cells,List.getElem?_cons_zero,List.getElem?_cons_succ,hpc] at c10
 have hx0:(x == g.ep)=false:=by simpa using hx
 have HT:=Lib.hid hT;clear hT
 have HG:=Lib.hid hg;clear hg h
 go_enter Tryz.func168,Tryz.ntmps168
 go_wp2_with fail
 go_step3
 go_wp2_with fail
 refine HT.out.mono ?_
 rintro e w1 ⟨rfl,ht⟩
 have hw1:=HG.out w1 ht
 have HW:=Lib.hid ht;clear ht
 have c10:=hw1.blk.cell 10
 simp only [Tak.cells,List.getElem?_cons_zero,List.getElem?_cons_succ,hpc] at c10
 have hs1:=TS.start hw1;clear hw1
 have HE:=Lib.hid (from_below (Below.refl w1.heap.size w1) (tEpoch_any b tb vl g w1 hs1.tak))
 have HS1:=Lib.hid hs1;clear hs1
 generalize hge:g.ep=gep at *
 clear hge
 go_wp2_with fail
 refine HE.out.mono ?_
 rintro e w2 ⟨rfl,hb2⟩
 have hs2:=HS1.out.fresh hb2
 clear hb2 c10
 have c6:=hs2.tak.blk.cell 6
 have c10:=hs2.tak.blk.cell 10
 simp only [Tak.cells,List.getElem?_cons_zero,List.getElem?_cons_succ] at c6 c10
 have f6:=hs2.tak.blk.free 6
 have f10:=hs2.tak.blk.free 10
 have HF:=Lib.hid (hs2.put (g':= { g with pc:=0 }) 10 (.int .i64 0) rfl rfl rfl);clear hs2
 go_wp2_with fail
 rw [Exit.noGoto_ret]
 go_ret2
 exact ⟨rfl,w1,HW.out,HF.out.to⟩
set_option maxRecDepth 100000 in
theorem tStep14 (hpc:g.pc=14) (tok:g.tab.Ok):
  Calls Tryz.prog 168 #[.pointer (some ⟨b,0,none⟩),p] w fun e w'=>e= .returned (.tuple #[.bool true, .int .i64 (g.over x).2])∧∃w1,T w1∧TakTo w1 b tb vl ((g.over x).1) w':=by
 have c10:=h.blk.cell 10
 simp only [Tak.cells,List.getElem?_cons_zero,List.getElem?_cons_succ,hpc] at c10
 have hE:=fun w1 h=>tEnd_any b tb vl g w1 h x tok
 generalize (g.over x).2=ans at *
 have HT:=Lib.hid hT;clear hT
 have HG:=Lib.hid hg;clear hg h
 go_enter Tryz.func168,Tryz.ntmps168
 go_wp2_with fail
 go_step3
 go_wp2_with fail
 refine HT.out.mono ?_
 rintro e w1 ⟨rfl,ht⟩
 have hw1:=HG.out w1 ht
 have HW:=Lib.hid ht;clear ht
 have c10:=hw1.blk.cell 10
 simp only [Tak.cells,List.getElem?_cons_zero,List.getElem?_cons_succ,hpc] at c10
 have hs1:=TS.start hw1;clear hw1
 have HE:=Lib.hid (hE w1 hs1.tak)
 have HS1:=Lib.hid hs1;clear hs1 hE
 go_wp2_with fail
 refine HE.out.mono ?_
 rintro e w2 ⟨rfl,h2⟩
 have HF:=Lib.hid h2;clear h2
 go_wp2_with fail
 rw [Exit.noGoto_ret]
 go_ret2
 exact ⟨rfl,w1,HW.out,HF.out⟩
end
set_option maxRecDepth 100000 in
theorem ask_out (L:BusL) (n W most:Nat) (vs:Nat→Value) (m:Nat→Nat) (q:Nat→List (Nat × Nat)) (c:Int) (hc:c<0∨(n:Int)≤c) (f:Value) (w:World) (h:BusAt w L n W most vs m q):
  Calls Tryz.prog 87 #[.pointer (some ⟨L.bus,0,none⟩), .int .i64 c,f] w fun e w'=>e= .returned (.int .i64 3)∧w=w':=by
 have h1:=h.bus.cell 1
 simp at h1
 have HB:=Lib.hid h;clear h
 by_cases h0:c<0
 ·clear hc
  go_enter Tryz.func87,Tryz.ntmps87
  go_wp2_with fail
  go_ret
  exact ⟨rfl,rfl⟩
 ·have hcn:(n:Int)≤c:=by omega
  clear hc
  go_enter Tryz.func87,Tryz.ntmps87
  go_wp2_with fail
  go_ret
  exact ⟨rfl,rfl⟩
theorem busDrain_out (L:BusL) (n W most:Nat) (vs:Nat→Value) (m:Nat→Nat) (q:Nat→List (Nat × Nat)) (c:Int) (hc:c<0∨(n:Int)≤c) (w:World) (h:BusAt w L n W most vs m q):
  Calls Tryz.prog 51 #[.pointer (some ⟨L.bus,0,none⟩), .int .i64 c] w fun e w'=>e= .returned (.tuple #[.bool false, .int .i64 3])∧Below w.heap.size w w':=by
 obtain ⟨hb,h1,h2⟩:=two_boxes w 92 4 (.pointer (some ⟨L.bus,0,none⟩)) (.bool false)
 have H:=Lib.hid (h.fresh hb);clear h
 have HB:=Lib.hid hb
 have HC:=Lib.hid hc;clear hc
 have c2:=h2.cell 0
 have f2:=h2.free 0
 simp only [List.getElem?_cons_zero] at c2
 have h7:=Lib.hid (h2.set 0 (.bool false))
 have HB2:=Lib.hid (hb.setCell (p:=⟨w.heap.size+1,0,none⟩) (by simp) (.bool false))
 clear hb h1 h2
 go_enter Tryz.func51,Tryz.ntmps51
 go_wp2_with fail
 refine (ask_out L n W most vs m q c HC.out _ _ H.out).mono ?_
 rintro e w1 ⟨rfl,rfl⟩
 go_wp2_with fail
 refine bodyPost_ret (res_ct rfl rfl Tryz.underlying4 _ _ (w.heap.size+1) (.bool false) rfl c2) rfl ?_
 exact ⟨rfl,HB.out⟩
theorem socDrain_in (S:SocL) (n W most:Nat) (vs:Nat→Value) (m:Nat→Nat) (q:Nat→List (Nat × Nat)) (g:Gates.Gt) (c:Nat) (hc:c<n) (w:World) (h:SocAt w S n W most vs m q g):
  Calls Tryz.prog 23 #[.pointer (some ⟨S.soc,0,none⟩), .int .i64 c] w fun e w'=>e= .returned (.tuple #[.bool (!(q c).isEmpty), .int .i64 0])∧SocTo w S n W most vs (drM m (q c)) (upd q c (q c).tail) g w':=by
 have c3:=h.blk.cell 3
 simp only [List.getElem?_cons_zero,List.getElem?_cons_succ] at c3
 have H:=Lib.hid h;clear h
 generalize hx:(!(q c).isEmpty)=x
 have HX:=Lib.hid hx;clear hx
 go_enter Tryz.func23,Tryz.ntmps23
 go_wp2_with fail
 refine (busDrain_any S.B n W most vs m q c hc _ H.out.bus).mono ?_
 rintro e w1 ⟨rfl,hT⟩
 rw [HX.out]
 have HT:=Lib.hid (H.out.busTo hc hT);clear hT
 go_wp2_with fail
 go_ret2
 exact ⟨rfl,HT.out⟩
theorem socDrain_out (S:SocL) (n W most:Nat) (vs:Nat→Value) (m:Nat→Nat) (q:Nat→List (Nat × Nat)) (g:Gates.Gt) (c:Int) (hc:c<0∨(n:Int)≤c) (w:World) (h:SocAt w S n W most vs m q g):
  Calls Tryz.prog 23 #[.pointer (some ⟨S.soc,0,none⟩), .int .i64 c] w fun e w'=>e= .returned (.tuple #[.bool false, .int .i64 3])∧Below w.heap.size w w':=by
 have c3:=h.blk.cell 3
 simp only [List.getElem?_cons_zero,List.getElem?_cons_succ] at c3
 have H:=Lib.hid h;clear h
 have HC:=Lib.hid hc;clear hc
 go_enter Tryz.func23,Tryz.ntmps23
 go_wp2_with fail
 refine (busDrain_out S.B n W most vs m q c HC.out _ H.out.bus).mono ?_
 rintro e w1 ⟨rfl,hB⟩
 go_wp2_with fail
 go_ret2
 exact ⟨rfl,hB⟩
theorem socUp_any (S:SocL) (n W most:Nat) (vs:Nat→Value) (m:Nat→Nat) (q:Nat→List (Nat × Nat)) (g:Gates.Gt) (c:Int) (w:World) (h:SocAt w S n W most vs m q g):
  Calls Tryz.prog 85 #[.pointer (some ⟨S.soc,0,none⟩), .int .i64 c] w fun e w'=>e= .returned (.bool (Gates.upR g c))∧w=w':=by
 have c6:=h.blk.cell 6
 simp only [List.getElem?_cons_zero,List.getElem?_cons_succ] at c6
 have HC:=Lib.hid (Gates.up_any S.gate c g w h.gate h.ok);clear h
 generalize Gates.upR g c=x at *
 go_enter Tryz.func85,Tryz.ntmps85
 go_wp2_with fail
 refine HC.out.mono ?_
 rintro e w' ⟨rfl,rfl⟩
 go_wp2_with fail
 go_ret
 exact ⟨by simp,rfl⟩
theorem socEpoch_any (S:SocL) (n W most:Nat) (vs:Nat→Value) (m:Nat→Nat) (q:Nat→List (Nat × Nat)) (g:Gates.Gt) (c:Int) (w:World) (h:SocAt w S n W most vs m q g):
  Calls Tryz.prog 27 #[.pointer (some ⟨S.soc,0,none⟩), .int .i64 c] w fun e w'=>e= .returned (.tuple #[.int .i64 (Gates.epR g c), .int .i64 (Gates.coreE g.cores c)])∧w=w':=by
 have c6:=h.blk.cell 6
 simp only [List.getElem?_cons_zero,List.getElem?_cons_succ] at c6
 have HC:=Lib.hid (Gates.epoch_any S.gate c g w h.gate h.ok);clear h
 generalize Gates.epR g c=x at *
 generalize Gates.coreE g.cores c=y at *
 go_enter Tryz.func27,Tryz.ntmps27
 go_wp2_with fail
 refine HC.out.mono ?_
 rintro e w' ⟨rfl,rfl⟩
 go_wp2_with fail
 go_ret2
 exact ⟨rfl,rfl⟩
theorem without_rng (l:List Int):∀own:List Int,(∀x∈own,0≤x∧x≤8)→∀x∈Banks.without own l,0≤x∧x≤8:=by
 induction l with
 | nil=>intro own h;exact h
 | cons y l ih=>
  intro own h
  refine ih _ (fun x hx=> ?_)
  rcases List.mem_or_eq_of_mem_set hx with h1|h1
  ·exact h x h1
  ·omega
theorem relR_ok {k:Banks.Bk} (ok:k.Ok) (c:Int):(Banks.relR k c).1.Ok∧(Banks.relR k c).1.cores=k.cores:=by
 unfold Banks.relR
 split
 ·exact ⟨⟨ok.c0,ok.c1,ok.n0,ok.n1,(Banks.without_len _ _).trans ok.len,without_rng _ _ ok.rng⟩,rfl⟩
 ·exact ⟨ok,rfl⟩
theorem SocTo.step {w w1 w2:World} {S:SocL} {n W most:Nat} {vs v1:Nat→Value} {m2:Nat→Nat} {q2:Nat→List (Nat × Nat)} {g2:Gates.Gt} (k1:Keep (SocF S n vs) w w1) (o1:∀k,SocF S n v1 k→SocF S n vs k∨w.heap.size≤k) (h:SocTo w1 S n W most v1 m2 q2 g2 w2):SocTo w S n W most vs m2 q2 g2 w2:=by
 obtain ⟨v2,h2,k2,o2⟩:=h
 refine ⟨v2,h2,k1.trans k2 (fun k hk hF=> ?_),fun k hk=> ?_⟩
 ·rcases o1 k hF with e|e
  ·exact e
  ·omega
 ·rcases o2 k hk with e|e
  ·exact o1 k e
  ·exact .inr (Nat.le_trans k1.size e)
theorem startR_ok {g:Gates.Gt} (ok:g.Ok) (c:Int):(Gates.startR g c).1.Ok∧(Gates.startR g c).1.cores=g.cores:=by
 unfold Gates.startR
 split
 ·split
  ·exact ⟨(ok.hold _ _).ep _ _ (by omega) (by omega),rfl⟩
  ·exact ⟨ok,rfl⟩
 ·exact ⟨ok,rfl⟩
theorem holdR_ok {g:Gates.Gt} (ok:g.Ok) (c:Int):(Gates.holdR g c).1.Ok∧(Gates.holdR g c).1.cores=g.cores:=by
 unfold Gates.holdR
 split
 ·split
  ·exact ⟨ok,rfl⟩
  ·exact ⟨ok.hold _ _,rfl⟩
 ·exact ⟨ok,rfl⟩
theorem socStart_any (S:SocL) (n W most:Nat) (vs:Nat→Value) (m:Nat→Nat) (q:Nat→List (Nat × Nat)) (g:Gates.Gt) (c:Int) (w:World) (h:SocAt w S n W most vs m q g):
  Calls Tryz.prog 26 #[.pointer (some ⟨S.soc,0,none⟩), .int .i64 c] w fun e w'=>e= .returned (.int .i64 (Gates.startR g c).2)∧SocTo w S n W most vs m q (Gates.startR g c).1 w':=by
 have c6:=h.blk.cell 6
 simp only [List.getElem?_cons_zero,List.getElem?_cons_succ] at c6
 have H:=Lib.hid h
 have hC:=Gates.start_any S.gate c g w h.gate h.ok
 have hok:=startR_ok h.ok c
 generalize Gates.startR g c=gr at *
 obtain ⟨g',r⟩:=gr
 have HC:=Lib.hid hC
 have HOK:=Lib.hid hok
 clear h hC hok
 go_enter Tryz.func26,Tryz.ntmps26
 go_wp2_with fail
 refine HC.out.mono ?_
 rintro e w1 ⟨rfl,hA,hG⟩
 have hT:=H.out.gateTo hA HOK.out.1 (HOK.out.2.trans H.out.cores) hG
 have HT:=Lib.hid hT
 clear hA hG hT
 go_wp2_with fail
 go_ret
 exact ⟨rfl,HT.out⟩
theorem socHold_no (S:SocL) (n W most:Nat) (vs:Nat→Value) (m:Nat→Nat) (q:Nat→List (Nat × Nat)) (g:Gates.Gt) (c:Int) (hno:(Gates.holdR g c).2≠0) (hg:(Gates.holdR g c).1=g) (w:World) (h:SocAt w S n W most vs m q g):
  Calls Tryz.prog 25 #[.pointer (some ⟨S.soc,0,none⟩), .int .i64 c] w fun e w'=>e= .returned (.int .i64 (Gates.holdR g c).2)∧SocTo w S n W most vs m q g w':=by
 have c6:=h.blk.cell 6
 simp only [List.getElem?_cons_zero,List.getElem?_cons_succ] at c6
 have H:=Lib.hid h
 have hC:=Gates.hold_any S.gate c g w h.gate h.ok
 rw [hg] at hC
 have HC:=Lib.hid hC;clear h hC hg
 generalize (Gates.holdR g c).2=r at *
 have e1:(r != 0)=true:=by rw [bne_iff_ne];exact hno
 clear hno
 go_enter Tryz.func25,Tryz.ntmps25
 go_wp2_with fail
 refine HC.out.mono ?_
 rintro e w1 ⟨rfl,hA,hG⟩
 have HT:=Lib.hid (H.out.gateTo hA H.out.ok H.out.cores hG)
 clear hA hG
 go_wp2_with fail
 go_ret
 exact ⟨rfl,HT.out⟩
theorem socHold_yes (S:SocL) (n W most:Nat) (vs:Nat→Value) (m:Nat→Nat) (q:Nat→List (Nat × Nat)) (g:Gates.Gt) (c:Nat) (hc:c<n) (hu:upAt g c) (w:World) (h:SocAt w S n W most vs m q g):
  Calls Tryz.prog 25 #[.pointer (some ⟨S.soc,0,none⟩), .int .i64 c] w fun e w'=>e= .returned (.int .i64 0)∧SocTo w S n W most vs m (upd q c []) (g.hold c true) w':=by
 have hE:Gates.coreE g.cores (c:Int)=0:=by unfold Gates.coreE;rw [h.cores,if_pos (by omega)]
 have hR:Gates.holdR g (c:Int)=(g.hold c true,0):=by unfold Gates.holdR;rw [if_pos hE,Int.toNat_natCast,if_neg (by rw [hu];simp)]
 have c6:=h.blk.cell 6
 simp only [List.getElem?_cons_zero,List.getElem?_cons_succ] at c6
 have H:=Lib.hid h
 have hC:=Gates.hold_any S.gate c g w h.gate h.ok
 have hok:=holdR_ok h.ok (c:Int)
 rw [hR] at hC hok
 have HC:=Lib.hid hC
 have HOK:=Lib.hid hok
 clear h hC hok hE hR
 generalize g.hold c true=g' at *
 go_enter Tryz.func25,Tryz.ntmps25
 go_wp2_with fail
 refine HC.out.mono ?_
 rintro e w1 ⟨rfl,hA,hG⟩
 obtain ⟨v1,hS1,hK1,hO1⟩:=H.out.gateTo hA HOK.out.1 (HOK.out.2.trans H.out.cores) hG
 have HQ1:=Lib.hid (And.intro hK1 hO1)
 have c3:=hS1.blk.cell 3
 simp only [List.getElem?_cons_zero,List.getElem?_cons_succ] at c3
 have HS1:=Lib.hid hS1
 clear hA hG hK1 hO1 hS1 c6
 go_wp2_with fail
 refine (busLose_any S.B n W most v1 m q c hc _ HS1.out.bus).mono ?_
 rintro e w2 ⟨⟨y,rfl⟩,hT2⟩
 obtain ⟨v2,hS2,hK2,hO2⟩:=HS1.out.busTo hc hT2
 have c4:=hS2.blk.cell 4
 simp only [List.getElem?_cons_zero,List.getElem?_cons_succ] at c4
 have HS2:=Lib.hid hS2
 have HQ2:=Lib.hid (And.intro hK2 hO2)
 clear hT2 hK2 hO2 hS2 c3
 go_wp2_with fail
 refine (boxReset_any S.X n c hc _ HS2.out.box).mono ?_
 rintro e w3 ⟨⟨y,rfl⟩,hX3,hK3⟩
 obtain ⟨v3,hS3,hK3',hO3⟩:=HS2.out.boxTo hX3 hK3
 have c5:=hS3.blk.cell 5
 simp only [List.getElem?_cons_zero,List.getElem?_cons_succ] at c5
 obtain ⟨k,hl,hlo,hlc⟩:=hS3.locks
 have HS3:=Lib.hid hS3
 have HQ3:=Lib.hid (And.intro hK3' hO3)
 have HL:=Lib.hid (And.intro hl hlo)
 clear hX3 hK3 hK3' hO3 hS3 c4 hl hlo
 go_wp2_with fail
 refine (Banks.release_any S.locks c k _ HL.out.1 HL.out.2).mono ?_
 rintro e w4 ⟨rfl,hA4,hG4⟩
 have hk:=relR_ok HL.out.2 (c:Int)
 have hT4:=HS3.out.locksTo hA4 hk.1 (hk.2.trans hlc) hG4
 have hT:=SocTo.step HQ1.out.1 HQ1.out.2 (SocTo.step HQ2.out.1 HQ2.out.2 (SocTo.step HQ3.out.1 HQ3.out.2 hT4))
 have HT:=Lib.hid hT
 generalize (Banks.relR k c).2.1=r1 at *
 generalize (Banks.relR k c).2.2=r2 at *
 clear hT hT4 hA4 hG4
 go_wp2_with fail
 go_ret
 exact ⟨rfl,HT.out⟩
end Go.Proofs.YtaaffebnajjfhaaGreatDoor.T
