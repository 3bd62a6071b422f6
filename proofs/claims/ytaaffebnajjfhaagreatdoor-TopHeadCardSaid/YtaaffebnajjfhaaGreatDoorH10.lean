/- Texts of this proof, merged: Giver, Giver2, Giver3, Giver4, GStep0, GStepE. -/
import Derived.Test.YtaaffebnajjfhaaGreatDoorH09
import Derived.Laws.MakeOwn
import Derived.Laws.OwnMore
import Derived.ScopeJumps
import Derived.WalkMore
import Derived.Deep.RegionLaw
namespace Go.Proofs.YtaaffebnajjfhaaGreatDoor.T
set_option linter.unusedVariables false
set_option linter.unusedSimpArgs false
set_option linter.unusedSectionVars false
open Go.RowKit
def nats (xs:List Nat):List Int:=xs.map (Nat.cast:Nat→Int)
theorem nats_len (xs:List Nat):(nats xs).length=xs.length:=by simp [nats]
def Giv.cells (g:Giv) (vf vo vl:Value):List Value:=
 [.int .i64 g.base, .int .i64 g.ring, .int .i64 g.self, .int .i64 g.peer, .int .i64 g.own, .int .i64 g.known, .bool g.linked,vf,vo, .int .i64 g.next, .int .i64 g.tail, .int .i64 g.pc, .int .i64 g.i, .int .i64 g.left, .int .i64 g.d, .int .i64 g.answer,vl]
structure GivAt (w:World) (b:Nat) (vf vo vl:Value) (g:Giv):Prop where
 blk:Blk w b 159 (g.cells vf vo vl)
 free:RowI w vf (nats g.free)
 out:RowI w vo (nats g.out)
 load:RowI w vl (nats g.load)
 fo:∀k,vf.ownBlock=some k→vo.ownBlock≠some k
 fl:∀k,vf.ownBlock=some k→vl.ownBlock≠some k
 ol:∀k,vo.ownBlock=some k→vl.ownBlock≠some k
def GivF (b:Nat) (vf vo vl:Value) (k:Nat):Prop:=k=b∨vf.ownBlock=some k∨vo.ownBlock=some k∨vl.ownBlock=some k
section
variable {w w':World} {b:Nat} {vf vo vl:Value} {g g':Giv}
theorem GivAt.keep {F:Nat→Prop} (h:GivAt w b vf vo vl g) (hk:Keep F w w') (hF:∀k,GivF b vf vo vl k→ ¬F k):GivAt w' b vf vo vl g:=
 ⟨h.blk.keep hk (hF b (.inl rfl)),Row.keep h.free hk (fun k q=>hF k (.inr (.inl q))),Row.keep h.out hk (fun k q=>hF k (.inr (.inr (.inl q)))),Row.keep h.load hk (fun k q=>hF k (.inr (.inr (.inr q)))),h.fo,h.fl,h.ol⟩
theorem GivAt.fresh (h:GivAt w b vf vo vl g) (hb:Below w.heap.size w w'):GivAt w' b vf vo vl g:=h.keep (Keep.ofFresh hb (B:=0) (F:=fun _=>False)) (fun _ _ q=>q)
theorem GivAt.lt (h:GivAt w b vf vo vl g) (k:Nat) (hk:GivF b vf vo vl k):k<w.heap.size:=by
 rcases hk with rfl|e|e|e
 ·exact h.blk.lt
 ·exact Row.lt h.free k e
 ·exact Row.lt h.out k e
 ·exact Row.lt h.load k e
theorem GivAt.put (h:GivAt w b vf vo vl g) (j:Nat) (u:Value) (hc:(g.cells vf vo vl).set j u=g'.cells vf vo vl) (h1:g'.free=g.free) (h2:g'.out=g.out) (h3:g'.load=g.load):GivAt (w.setCell ⟨b,j,none⟩ u) b vf vo vl g':=by
 refine ⟨?_, ?_, ?_, ?_,h.fo,h.fl,h.ol⟩
 ·rw [←hc];exact h.blk.set j u
 ·rw [h1];exact Row.far h.free h.blk (by decide) j u
 ·rw [h2];exact Row.far h.out h.blk (by decide) j u
 ·rw [h3];exact Row.far h.load h.blk (by decide) j u
end
set_option maxRecDepth 100000 in
theorem gEpoch_any (b:Nat) (vf vo vl:Value) (g:Giv) (w:World) (h:GivAt w b vf vo vl g):
  Calls Tryz.prog 160 #[.pointer (some ⟨b,0,none⟩)] w fun e w'=>e= .returned (.int .i64 g.ep)∧Below w.heap.size w w':=by
 have c4:=h.blk.cell 4
 have c5:=h.blk.cell 5
 simp only [Giv.cells,List.getElem?_cons_zero,List.getElem?_cons_succ] at c4 c5
 have HC:=Lib.hid (add_any g.own g.known)
 show Calls _ _ _ _ fun e w'=>e= .returned (.int .i64 (((g.own:Int)+g.known)%65536))∧_
 clear h
 go_enter Tryz.func160,Tryz.ntmps160
 go_wp2_with fail
 go_region_held3 (fun u=>u.cell? ⟨b,4,none⟩=some (.int .i64 g.own)∧u.cell? ⟨b,5,none⟩=some (.int .i64 g.known))
  (first|exact ⟨c4,c5⟩)
  (first|(go_at_call 103;refine (HC.out _).mono ?_;rintro e w' ⟨rfl,rfl⟩))
 go_wp2_with fail
 go_ret
 exact ⟨rfl,(Below.refl _ w).drew⟩
set_option maxRecDepth 100000 in
theorem gPlace_of (b:Nat) (vf vo vl:Value) (g:Giv) (f s i a:Int) (w:World) (h:GivAt w b vf vo vl g)
  (E:Calls Tryz.prog 156 #[.agg #[.int .i64 g.base, .int .i64 g.ring], .int .i64 f, .int .i64 s, .int .i64 i] w fun e w'=>e= .returned (.tuple #[.int .i64 a, .bool true])∧Below w.heap.size w w'):
  Calls Tryz.prog 165 #[.pointer (some ⟨b,0,none⟩), .int .i64 f, .int .i64 s, .int .i64 i] w fun e w'=>e= .returned (.int .i64 a)∧Below w.heap.size w w':=by
 have c0:=h.blk.cell 0
 have c1:=h.blk.cell 1
 simp only [Giv.cells,List.getElem?_cons_zero,List.getElem?_cons_succ] at c0 c1
 have HE:=Lib.hid E;clear h E
 go_enter Tryz.func165,Tryz.ntmps165
 go_wp2_with fail
 refine HE.out.mono ?_
 rintro e w1 ⟨rfl,hB⟩
 have HB:=Lib.hid hB;clear hB
 go_wp2_with fail
 go_ret
 exact ⟨rfl,HB.out⟩
theorem from_below {f:Nat} {args:Array Value} {w0 w:World} {v:Ending} (hb:Below w0.heap.size w0 w) (h:Calls Tryz.prog f args w fun e w'=>e=v∧Below w.heap.size w w'):Calls Tryz.prog f args w fun e w'=>e=v∧Below w0.heap.size w0 w':=
 h.mono fun e w' h=>⟨h.1,hb.trans (h.2.mono hb.size)⟩
def TchTo (w:World) (S:SocL) (n W most:Nat) (vs:Nat→Value) (c:Nat) (s:Sc) (t:Tch) (w':World):Prop:=
 SocTo w S n W most vs (s.tch most c t).1.m (s.tch most c t).1.q (s.tch most c t).1.g w'
theorem from_soc {f:Nat} {args:Array Value} {w0 w:World} {v:Ending} {S:SocL} {n W most:Nat} {vs:Nat→Value} {m:Nat→Nat} {q:Nat→List (Nat × Nat)} {g:Gates.Gt} (hb:Below w0.heap.size w0 w) (h:Calls Tryz.prog f args w fun e w'=>e=v∧SocTo w S n W most vs m q g w'):Calls Tryz.prog f args w fun e w'=>e=v∧SocTo w0 S n W most vs m q g w':=
 h.mono fun e w' h=>⟨h.1,SocTo.from_ hb h.2⟩
theorem SocTo.block {w w':World} {S:SocL} {n W most:Nat} {vs:Nat→Value} {m:Nat→Nat} {q:Nat→List (Nat × Nat)} {g:Gates.Gt} (h:SocTo w S n W most vs m q g w') {k:Nat} (hk:k<w.heap.size) (hF: ¬SocF S n vs k):w'.heap[k]? = w.heap[k]? := by
 obtain ⟨vs',h1,h2,h3⟩:=h
 exact h2.block k hk hF
theorem GivAt.soc {w w':World} {S:SocL} {n W most b:Nat} {vf vo vl:Value} {gv:Giv} {vs:Nat→Value} {m:Nat→Nat} {q:Nat→List (Nat × Nat)} {g:Gates.Gt} (h:GivAt w b vf vo vl gv) (hd:∀k,GivF b vf vo vl k→ ¬SocF S n vs k) (hT:SocTo w S n W most vs m q g w'):GivAt w' b vf vo vl gv:=by
 obtain ⟨vs',h1,h2,h3⟩:=hT
 exact h.keep h2 hd
theorem ahead_epoch (p:Nat) (w:World):(nilAhead 344 115 (.pointer (some ⟨p,0,none⟩)) "Epoch").run Tryz.prog w= .ok (some false) w:=by kernel_rfl
theorem meth_epoch (p:Nat) (w:World):(method 344 115 (.pointer (some ⟨p,0,none⟩)) "Epoch").run Tryz.prog w= .ok (180, .pointer (some ⟨p,0,none⟩)) w:=by kernel_rfl
theorem ahead_fence (p:Nat) (w:World):(nilAhead 344 115 (.pointer (some ⟨p,0,none⟩)) "Fence").run Tryz.prog w= .ok (some false) w:=by kernel_rfl
theorem meth_fence (p:Nat) (w:World):(method 344 115 (.pointer (some ⟨p,0,none⟩)) "Fence").run Tryz.prog w= .ok (181, .pointer (some ⟨p,0,none⟩)) w:=by kernel_rfl
theorem ahead_kick (p:Nat) (w:World):(nilAhead 344 115 (.pointer (some ⟨p,0,none⟩)) "Kick").run Tryz.prog w= .ok (some false) w:=by kernel_rfl
theorem meth_kick (p:Nat) (w:World):(method 344 115 (.pointer (some ⟨p,0,none⟩)) "Kick").run Tryz.prog w= .ok (182, .pointer (some ⟨p,0,none⟩)) w:=by kernel_rfl
theorem ahead_load (p:Nat) (w:World):(nilAhead 344 115 (.pointer (some ⟨p,0,none⟩)) "Load").run Tryz.prog w= .ok (some false) w:=by kernel_rfl
theorem meth_load (p:Nat) (w:World):(method 344 115 (.pointer (some ⟨p,0,none⟩)) "Load").run Tryz.prog w= .ok (183, .pointer (some ⟨p,0,none⟩)) w:=by kernel_rfl
theorem ahead_store (p:Nat) (w:World):(nilAhead 344 115 (.pointer (some ⟨p,0,none⟩)) "Store").run Tryz.prog w= .ok (some false) w:=by kernel_rfl
theorem meth_store (p:Nat) (w:World):(method 344 115 (.pointer (some ⟨p,0,none⟩)) "Store").run Tryz.prog w= .ok (184, .pointer (some ⟨p,0,none⟩)) w:=by kernel_rfl
def port (p:Nat):Value:= .iface 115 (.pointer (some ⟨p,0,none⟩))
theorem Keep.one {w:World} {b j:Nat} {u:Value}:Keep (fun k=>k=b) w (w.setCell ⟨b,j,none⟩ u):=(Keep.refl (fun k=>k=b) w).setCell (p:=⟨b,j,none⟩) (fun _=>rfl) u
section
variable (b:Nat) (vf vo vl:Value) (g:Giv)
set_option maxRecDepth 100000 in
theorem gAsked_any (x:Int) (w:World) (h:GivAt w b vf vo vl g):
  Calls Tryz.prog 159 #[.pointer (some ⟨b,0,none⟩), .int .i64 x] w fun e w'=>e= .returned (.int .i64 (g.asked x).pc)∧GivAt w' b vf vo vl { g with known:=(g.asked x).known }∧Keep (fun k=>k=b) w w':=by
 have c5:=h.blk.cell 5
 have c6:=h.blk.cell 6
 have f5:=h.blk.free 5
 simp only [Giv.cells,List.getElem?_cons_zero,List.getElem?_cons_succ] at c5 c6
 by_cases hx:x=g.known
 ·have e0:(x == g.known)=true:=by simpa using hx
  by_cases hl:g.linked=true
  ·have hr:g.asked x= { g with pc:=6 }:=by unfold Giv.asked;rw [if_neg (by simpa using hx),if_pos hl]
   rw [hr]
   have H:=Lib.hid h;clear h hr hx
   rw [hl] at c6;clear hl
   go_enter Tryz.func159,Tryz.ntmps159
   go_wp2_with fail
   go_ret
   exact ⟨rfl,H.out,Keep.refl _ _⟩
  ·have hl:g.linked=false:=by simpa using hl
   have hr:g.asked x= { g with pc:=5 }:=by unfold Giv.asked;rw [if_neg (by simpa using hx),if_neg (by rw [hl];simp)]
   rw [hr]
   have H:=Lib.hid h;clear h hr hx
   rw [hl] at c6;clear hl
   go_enter Tryz.func159,Tryz.ntmps159
   go_wp2_with fail
   go_ret
   exact ⟨rfl,H.out,Keep.refl _ _⟩
 ·have e0:(x == g.known)=false:=by simpa using hx
  have hr:g.asked x= { g with known:=x,pc:=2 }:=by unfold Giv.asked;rw [if_pos hx]
  rw [hr]
  have hp:=h.put (g':= { g with known:=x }) 5 (.int .i64 x) rfl rfl rfl rfl
  have HP:=Lib.hid hp;clear h hr hx hp
  go_enter Tryz.func159,Tryz.ntmps159
  go_wp2_with fail
  go_ret
  exact ⟨rfl,HP.out,Keep.one⟩
set_option maxRecDepth 100000 in
theorem gEnd_any (x:Int) (w:World) (h:GivAt w b vf vo vl g):
  Calls Tryz.prog 163 #[.pointer (some ⟨b,0,none⟩), .int .i64 x] w fun e w'=>e= .returned (.int .i64 (g.over x).2)∧GivAt w' b vf vo vl (g.over x).1∧Keep (fun k=>k=b) w w':=by
 have c5:=h.blk.cell 5
 have c15:=h.blk.cell 15
 have c9:=h.blk.cell 9
 have c11:=h.blk.cell 11
 have f11:=h.blk.free 11
 have f9:=h.blk.free 9
 simp only [Giv.cells,List.getElem?_cons_zero,List.getElem?_cons_succ] at c5 c9 c15 c11
 have hp:=h.put (g':= { g with pc:=0 }) 11 (.int .i64 0) rfl rfl rfl rfl
 by_cases hx:x=g.known
 ·have e0:(x == g.known)=true:=by simpa using hx
  by_cases ha:g.answer=0
  ·have e1:(g.answer == 0)=true:=by simpa using ha
   have hr:g.over x=({ g with pc:=0,next:=(g.next+1)%65536 },g.answer):=by unfold Giv.over;simp [hx,ha]
   have he:(((g.next:Int)+1)%65536)=(((g.next+1)%65536:Nat):Int):=by omega
   have hp2:=hp.put (g':= { g with pc:=0,next:=(g.next+1)%65536 }) 9 (.int .i64 ((g.next+1)%65536:Nat)) rfl rfl rfl rfl
   have hA:=fun w=>add_any g.next 1 w
   rw [he] at hA
   rw [hr]
   have HA:=Lib.hid hA;clear hA
   have HP:=Lib.hid hp2;clear h hr hx hp hp2 he ha
   go_enter Tryz.func163,Tryz.ntmps163
   go_wp2_with fail
   refine (HA.out _).mono ?_
   rintro e w' ⟨rfl,rfl⟩
   go_wp2_with fail
   go_ret
   exact ⟨rfl,HP.out,Keep.one.trans' Keep.one⟩
  ·have e1:(g.answer == 0)=false:=by simpa using ha
   have hr:g.over x=({ g with pc:=0 },g.answer):=by unfold Giv.over;simp [hx,ha]
   rw [hr]
   have HP:=Lib.hid hp;clear h hr hx hp ha
   go_enter Tryz.func163,Tryz.ntmps163
   go_wp2_with fail
   go_ret
   exact ⟨rfl,HP.out,Keep.one⟩
 ·have e0:(x == g.known)=false:=by simpa using hx
  have hr:g.over x=({ g with pc:=0 },8):=by unfold Giv.over;simp [hx]
  rw [hr]
  have HP:=Lib.hid hp;clear h hr hx hp
  go_enter Tryz.func163,Tryz.ntmps163
  go_wp2_with fail
  go_ret
  exact ⟨rfl,HP.out,Keep.one⟩
end
theorem make_ints (n:Nat) (hn:n≤1000) (w:World):(Instr.makeSlice 31 (.int .i64 (n:Int)) (.int .i64 (n:Int))).run Tryz.prog w= .ok (.slice (some ⟨w.heap.size,0,none⟩) n n) (w.alloc (.cells (ints (nats (List.replicate n 0))).toArray 3)):=by
 obtain ⟨i0,hi,hzz⟩:=Option.map_eq_some_iff.1 info3
 simp only [Prod.mk.injEq] at hzz
 obtain ⟨hz0,hz1,hz2⟩:=hzz
 have h:=run_make (P:=Tryz.prog) (w:=w) 31 3 i0 _ under31 hi hz0 .i64 .i64 n n (by omega) (by omega) (by rw [hz2];push_cast;omega) (by omega)
 rw [h]
 have:madeCells (Value.int IntKind.i64 0).cells ((n:Int).toNat*i0.size)=(ints (nats (List.replicate n 0))).toArray:=by
  rw [hz1]
  apply Array.ext'
  have e:((n:Int).toNat*1)=n:=by omega
  rw [e]
  show (madeCells #[Value.int .i64 0] n).toList=_
  rw [toList_madeCells_one]
  simp [ints,nats]
 rw [this]
 rfl
theorem range_set (k r:Nat) (hk:k<r):(List.range k++List.replicate (r-k) 0).set k k=List.range (k+1)++List.replicate (r-(k+1)) 0:=by
 have h1:(List.range k++List.replicate (r-k) 0).set k k=List.range k++(List.replicate (r-k) 0).set 0 k:=by
  rw [List.set_append_right _ _ (by simp)];simp
 rw [h1,List.range_succ,List.append_assoc]
 congr 1
 rw [show r-k=(r-(k+1))+1 by omega,List.replicate_succ]
 rfl
section
variable (b:Nat) (vf vo vl:Value) (g:Giv)
set_option maxRecDepth 100000 in
theorem gFirst_any (hr1:1≤g.ring) (hr:g.ring≤64) (w:World) (h:GivAt w b vf vo vl g):
  Calls Tryz.prog 82 #[.pointer (some ⟨b,0,none⟩)] w fun e w'=>e= .returned (.tuple #[])∧∃vf',GivAt w' b vf' (.slice none 0 0) vl g.first∧Keep (fun k=>k=b) w w'∧∀k,vf'.ownBlock=some k→w.heap.size≤k:=by
 have c1:=h.blk.cell 1
 simp only [Giv.cells,List.getElem?_cons_zero,List.getElem?_cons_succ] at c1
 have c6:=h.blk.cell 6
 have c8:=h.blk.cell 8
 have c9:=h.blk.cell 9
 have c10:=h.blk.cell 10
 have c11:=h.blk.cell 11
 have c7:=h.blk.cell 7
 have f6:=h.blk.free 6
 have f7:=h.blk.free 7
 have f8:=h.blk.free 8
 have f9:=h.blk.free 9
 have f10:=h.blk.free 10
 have f11:=h.blk.free 11
 simp only [Giv.cells,List.getElem?_cons_zero,List.getElem?_cons_succ] at c6 c7 c8 c9 c10 c11
 have hm:=make_ints g.ring (by omega)
 have HB:=Lib.hid h.blk
 have HL:=Lib.hid h.load
 have hbn:b<w.heap.size:=h.blk.lt
 have hlt:∀k,vl.ownBlock=some k→k<w.heap.size:=fun k hk=>Row.lt h.load k hk
 have HLT:=Lib.hid hlt;clear hlt h
 go_enter Tryz.func82,Tryz.ntmps82
 go_wp2_with fail
 go_loopw [32] (fun j u=>∃k:Nat,k≤g.ring∧j= .int .i64 k∧Blk u w.heap.size 3 (ints (nats (List.range k++List.replicate (g.ring-k) 0)))∧Blk u b 159 (g.first.cells (.slice (some ⟨w.heap.size,0,none⟩) g.ring g.ring) (.slice none 0 0) vl)∧Keep (fun k=>k=b) w u)
  (fun j _=>g.ring-(intOf j).toNat)
 case atStart=>
  refine ⟨0,by omega,rfl, ?_, ?_, ?_⟩
  ·have:=Blk.new (((((((w.setCell ⟨b,6,none⟩ (Value.bool false)).setCell ⟨b,8,none⟩ (Value.slice none 0 0)).setCell ⟨b,9,none⟩ (Value.int IntKind.i64 0)).setCell ⟨b,10,none⟩ (Value.int IntKind.i64 0)).setCell ⟨b,11,none⟩ (Value.int IntKind.i64 0)).setCell ⟨b,7,none⟩ (Value.slice (some ⟨w.heap.size,0,none⟩) g.ring g.ring))) 3 (ints (nats (List.replicate g.ring 0)))
   simpa [World.setCell] using this
  ·exact ((((((HB.out.set 6 _).set 8 _).set 9 _).set 10 _).set 11 _).set 7 _).alloc _
  ·exact ((((((Keep.one.trans' Keep.one).trans' Keep.one).trans' Keep.one).trans' Keep.one).trans' Keep.one).alloc _)
 case round=>
  obtain ⟨k,hk,rfl,h1,h2,h3⟩:=hrel
  have c7:=h2.cell 7
  simp only [Giv.cells,List.getElem?_cons_zero,List.getElem?_cons_succ] at c7
  by_cases hkl:k<g.ring
  ·have hs1:=(h1.set k (.int .i64 (k:Int)))
   have e1:(ints (nats (List.range k++List.replicate (g.ring-k) 0))).set k (.int .i64 (k:Int))=ints (nats (List.range (k+1)++List.replicate (g.ring-(k+1)) 0)):=by
    rw [←range_set k g.ring hkl];simp [ints,nats,List.map_set]
   rw [e1] at hs1
   have hs2:=h2.far (p:=⟨w.heap.size,k,none⟩) (by show b≠w.heap.size;omega) (.int .i64 (k:Int))
   have hs3:=h3.setCell (p:=⟨w.heap.size,k,none⟩) (fun h=>absurd h (Nat.lt_irrefl _)) (.int .i64 (k:Int))
   have hc:=h1.cell k
   rw [ints_get _ _ (by rw [nats_len];simp;omega)] at hc
   have hf:=h1.free k
   have HS:=Lib.hid (And.intro hs1 (And.intro hs2 hs3))
   have hk0:(0:Int)≤(k:Int):=by omega
   have hk1:(k:Int)<(g.ring:Int):=by omega
   clear hs1 hs2 hs3 h1 h2 h3 e1
   go_wp2_with fail
   go_roundw
   case rel=>exact ⟨k+1,by omega,by go_num,HS.out.1,HS.out.2.1,HS.out.2.2⟩
   case measure=>simp [intOf];omega
  ·have hkn:k=g.ring:=by omega
   subst hkn
   have HH:=Lib.hid (And.intro h1 (And.intro h2 h3));clear h1 h2 h3
   go_wp2_with fail
   go_end0
   obtain ⟨h1,h2,h3⟩:=HH.out
   rw [Nat.sub_self,List.replicate_zero,List.append_nil] at h1
   refine ⟨rfl, .slice (some ⟨w.heap.size,0,none⟩) g.ring g.ring,⟨h2, ?_,Row.nil _ _ _,Row.keep HL.out h3 (fun k hk e=> ?_),fun k hk=>by simp [Value.ownBlock],fun k hk e=> ?_,fun k hk=>by simp [Value.ownBlock] at hk⟩,h3,fun k hk=> ?_⟩
   ·have:=Row.whole (size:=1) (n:=g.ring) h1 (by simp [ints,nats]) (by unfold maxLen;omega)
    simpa [RowI,nats,Giv.first] using this
   ·exact Row.ne HL.out HB.out (by decide) (by rw [hk,e])
   ·have:=HLT.out k e
    have:w.heap.size=k:=by simpa [Value.ownBlock] using hk
    omega
   ·have:w.heap.size=k:=by simpa [Value.ownBlock] using hk
    omega
end
theorem idx_nats (xs:List Nat) (x:Int):idx (nats xs) x=((xs.findIdx? (fun (y:Nat)=>(y:Int) == x)).map Int.ofNat).getD (-1):=by
 unfold idx nats
 rw [List.findIdx?_map]
 rfl
theorem nats_erase (xs:List Nat) (k:Nat):(nats xs).eraseIdx k=nats (xs.eraseIdx k):=by
 unfold nats;apply List.ext_getElem?;intro j;simp only [List.getElem?_map,List.getElem?_eraseIdx];split<;>rfl
theorem nats_push (xs:List Nat) (x:Nat):nats (xs ++ [x])=nats xs ++ [(x:Int)]:=by simp [nats]
theorem ints_push (xs:List Int) (x:Int):ints (xs ++ [x])=ints xs ++ [.int .i64 x]:=by simp [ints]
section
variable (b:Nat) (vf vo vl:Value) (g:Giv)
set_option maxRecDepth 100000 in
theorem gReturned_no (x:Int) (hx:g.out.findIdx? (fun (y:Nat)=>(y:Int) == x)=none) (hlen:g.out.length≤64) (w:World) (h:GivAt w b vf vo vl g):
  Calls Tryz.prog 162 #[.pointer (some ⟨b,0,none⟩), .int .i64 x] w fun e w'=>e= .returned (.bool false)∧w=w':=by
 have c8:=h.blk.cell 8
 simp only [Giv.cells,List.getElem?_cons_zero,List.getElem?_cons_succ] at c8
 have hI:=index_any vo (nats g.out) x (by rw [nats_len];omega) w (RowI.read h.out)
 rw [idx_nats,hx] at hI
 have HI:=Lib.hid hI;clear hI h hx
 go_enter Tryz.func162,Tryz.ntmps162
 go_wp2_with fail
 refine HI.out.mono ?_
 rintro e w' ⟨rfl,rfl⟩
 go_wp2_with fail
 go_ret
 exact ⟨rfl,rfl⟩
set_option maxRecDepth 100000 in
theorem gReturned_yes (x k:Nat) (hx:g.out.findIdx? (fun (y:Nat)=>(y:Int) == (x:Int))=some k) (hlen:g.free.length+g.out.length≤64) (hl0:0<g.left) (hl1:g.left≤65536) (w:World) (h:GivAt w b vf vo vl g):
  Calls Tryz.prog 162 #[.pointer (some ⟨b,0,none⟩), .int .i64 x] w fun e w'=>e= .returned (.bool true)∧∃vf' vo',GivAt w' b vf' vo' vl (g.back k x)∧Keep (fun q=>q=b∨vf.ownBlock=some q∨vo.ownBlock=some q) w w'∧vo'.ownBlock=vo.ownBlock∧(vf'.ownBlock=vf.ownBlock∨∃q,vf'.ownBlock=some q∧w.heap.size≤q):=by
 have hk:k<g.out.length:=(List.findIdx?_eq_some_iff_getElem.1 hx).1
 have c8:=h.blk.cell 8
 simp only [Giv.cells,List.getElem?_cons_zero,List.getElem?_cons_succ] at c8
 have hI:=index_any vo (nats g.out) x (by rw [nats_len];omega) w (RowI.read h.out)
 rw [idx_nats,hx] at hI
 have hI:Calls Tryz.prog 166 #[vo, .int .i64 x] w fun e w'=>e= .returned (.int .i64 (k:Int))∧w=w':=hI
 have hD:=delete_any vo (nats g.out) k (by rw [nats_len];exact hk) (by rw [nats_len];omega) w h.out
 rw [nats_erase] at hD
 have hA:=fun w=>add_any g.tail 1 w
 have he:(((g.tail:Int)+1)%65536)=(((g.tail+1)%65536:Nat):Int):=by omega
 rw [he] at hA
 have hlt:∀q,GivF b vf vo vl q→q<w.heap.size:=h.lt
 have HI:=Lib.hid hI
 have HD:=Lib.hid hD
 have HA:=Lib.hid hA
 have H:=Lib.hid h
 have HLT:=Lib.hid hlt
 have k0:(0:Int)≤(k:Int):=by omega
 have kw:IntKind.i64.wrap ((k:Int)+1)=(k:Int)+1:=by rw [IntKind.wrap_i64];omega
 have lw:IntKind.i64.wrap ((g.left:Int)-1)=((g.left-1:Nat):Int):=by rw [IntKind.wrap_i64];omega
 clear hI hD hA h he hx hlt
 go_enter Tryz.func162,Tryz.ntmps162
 go_wp2_with fail
 refine HI.out.mono ?_
 rintro e w' ⟨rfl,rfl⟩
 go_wp2_with fail
 refine HD.out.mono ?_
 rintro e w1 ⟨vo',rfl,hR1,ho1,hK1⟩
 obtain ⟨A2,c2,hv2,hq1,hq2⟩:=Row.slice hR1
 clear hq1 hq2
 subst hv2
 generalize hn2:(nats (g.out.eraseIdx k)).length=n2 at *
 have b1:Blk w1 b 159 (g.cells vf vo vl):=H.out.blk.keep hK1 (fun e=>Row.ne H.out.out H.out.blk (by decide) e)
 have r1:RowI w1 vf (nats g.free):=Row.keep H.out.free hK1 (fun q hq e=>H.out.fo q hq e)
 have l1:RowI w1 vl (nats g.load):=Row.keep H.out.load hK1 (fun q hq e=>H.out.ol q e hq)
 have c8:(w1.cell? ⟨b,8,none⟩)=some vo:=b1.cell 8
 have f8:=b1.free 8
 have c7:(w1.cell? ⟨b,7,none⟩)=some vf:=b1.cell 7
 have b2:Blk (w1.setCell ⟨b,8,none⟩ (.slice A2 n2 c2)) b 159 (g.cells vf (.slice A2 n2 c2) vl):=b1.set 8 (.slice A2 n2 c2)
 have r2:RowI (w1.setCell ⟨b,8,none⟩ (.slice A2 n2 c2)) vf (nats g.free):=Row.far r1 b1 (by decide) 8 (.slice A2 n2 c2)
 have l2:RowI (w1.setCell ⟨b,8,none⟩ (.slice A2 n2 c2)) vl (nats g.load):=Row.far l1 b1 (by decide) 8 (.slice A2 n2 c2)
 have o2:RowI (w1.setCell ⟨b,8,none⟩ (.slice A2 n2 c2)) (.slice A2 n2 c2) (nats (g.out.eraseIdx k)):=Row.far hR1 b1 (by decide) 8 (.slice A2 n2 c2)
 have hb3:Below w1.heap.size (w1.setCell ⟨b,8,none⟩ (.slice A2 n2 c2)) ((w1.setCell ⟨b,8,none⟩ (.slice A2 n2 c2)).alloc (.cells #[.int .i64 (x:Int)] 3)):=by
  have:=(Below.refl (w1.setCell ⟨b,8,none⟩ (.slice A2 n2 c2)).heap.size (w1.setCell ⟨b,8,none⟩ (.slice A2 n2 c2))).alloc (Nat.le_refl _) (.cells #[.int .i64 (x:Int)] 3)
  simpa [World.setCell] using this
 have hsz:(w1.setCell ⟨b,8,none⟩ (.slice A2 n2 c2)).heap.size=w1.heap.size:=by simp [World.setCell]
 have b3:Blk ((w1.setCell ⟨b,8,none⟩ (.slice A2 n2 c2)).alloc (.cells #[.int .i64 (x:Int)] 3)) b 159 (g.cells vf (.slice A2 n2 c2) vl):=b2.alloc _
 have r3:RowI ((w1.setCell ⟨b,8,none⟩ (.slice A2 n2 c2)).alloc (.cells #[.int .i64 (x:Int)] 3)) vf (nats g.free):=Row.below r2 (by rw [hsz];exact hb3)
 have l3:RowI ((w1.setCell ⟨b,8,none⟩ (.slice A2 n2 c2)).alloc (.cells #[.int .i64 (x:Int)] 3)) vl (nats g.load):=Row.below l2 (by rw [hsz];exact hb3)
 have o3:RowI ((w1.setCell ⟨b,8,none⟩ (.slice A2 n2 c2)).alloc (.cells #[.int .i64 (x:Int)] 3)) (.slice A2 n2 c2) (nats (g.out.eraseIdx k)):=Row.below o2 (by rw [hsz];exact hb3)
 have n3:=Blk.new (w1.setCell ⟨b,8,none⟩ (.slice A2 n2 c2)) 3 [.int .i64 (x:Int)]
 rw [hsz] at n3
 have hnews:∀j u, [Value.int .i64 (x:Int)][j]? = some u→((w1.setCell ⟨b,8,none⟩ (.slice A2 n2 c2)).alloc (.cells #[.int .i64 (x:Int)] 3)).cell? ((⟨w1.heap.size,0,none⟩:Addr).add j)=some u:=by
  intro j u hu
  rw [add_lit,Nat.zero_add]
  exact (n3.cell j).trans hu
 have k3:Keep (fun q=>q=b∨vf.ownBlock=some q∨vo.ownBlock=some q) w ((w1.setCell ⟨b,8,none⟩ (.slice A2 n2 c2)).alloc (.cells #[.int .i64 (x:Int)] 3)):=((hK1.mono (fun q _ e=> .inr (.inr e))).setCell (p:=⟨b,8,none⟩) (fun _=> .inl rfl) (.slice A2 n2 c2)).alloc _
 have hle:w.heap.size≤w1.heap.size:=hK1.size
 have hF:∀w4:World,(((w1.setCell ⟨b,8,none⟩ (.slice A2 n2 c2)).alloc (.cells #[.int .i64 (x:Int)] 3))).grownBy w4 vf.ownBlock→Blk w4 b 159 (g.cells vf (.slice A2 n2 c2) vl)∧RowI w4 (.slice A2 n2 c2) (nats (g.out.eraseIdx k))∧RowI w4 vl (nats g.load)∧Keep (fun q=>q=b∨vf.ownBlock=some q∨vo.ownBlock=some q) w w4:=by
  intro w4 hg
  have hk4:=Keep.grown hg
  refine ⟨b3.keep hk4 (fun e=>Row.ne r3 b3 (by decide) e),Row.keep o3 hk4 (fun q hq e=>H.out.fo q e (by rw [←ho1];exact hq)),Row.keep l3 hk4 (fun q hq e=>H.out.fl q e hq),k3.trans hk4 (fun q _ e=> .inr (.inl e))⟩
 have HF:=Lib.hid hF;clear hn2
 have HR:=Lib.hid r3
 have HO:=Lib.hid ho1
 have HN:=Lib.hid hnews
 have HZ:=Lib.hid hle
 clear hF r3 r1 r2 l1 l2 l3 b1 b2 b3 o2 o3 n3 hb3 hnews k3 hR1 ho1 hK1 hle hsz
 go_wp2_with (at_builtin;refine app_list rfl _ _ 31 3 (.int .i64 0) 1 8 rfl under31 info3 rfl (by decide) vf (nats g.free).length (ints (nats g.free)) HR.out ⟨w1.heap.size,0,none⟩ 1 1 [.int .i64 (x:Int)] rfl rfl rfl HN.out (by intro u hu;rw [List.mem_singleton.1 hu];rfl) (by rw [nats_len];unfold maxLen;omega) (by rw [nats_len];omega) ?_;intro v4 w4 hR4 hg4 hat4;obtain ⟨A4,c4,hv4,hq1,hq2⟩:=Row.slice hR4;clear hq1 hq2;subst hv4;have q:=(HF.out w4 hg4).1;have c10:w4.cell? ⟨b,10,none⟩=some (.int .i64 g.tail):=q.cell 10;have c13:w4.cell? ⟨b,13,none⟩=some (.int .i64 g.left):=q.cell 13;have c7':w4.cell? ⟨b,7,none⟩=some vf:=q.cell 7;have f7:=q.free 7;have f10:=q.free 10;have f13:=q.free 13;have HQ:=Lib.hid (And.intro hR4 (And.intro hg4 hat4));clear q hR4 hg4 hat4)
 refine (HA.out _).mono ?_
 rintro e w5 ⟨rfl,rfl⟩
 go_wp2_with fail
 go_ret
 obtain ⟨hR4,hg4,hat4⟩:=HQ.out
 obtain ⟨b4,o4,l4,k4⟩:=HF.out w4 hg4
 have hfn:ints (nats g.free) ++ [.int .i64 (x:Int)]=ints (nats (g.free ++ [x])):=by rw [nats_push,ints_push]
 have hfl:(nats g.free).length+1=(nats (g.free ++ [x])).length:=by simp [nats]
 rw [hfn] at hR4
 generalize hv4:Value.slice A4 ((nats g.free).length+1) c4=v4 at *
 generalize hv2:Value.slice A2 n2 c2=v2 at *
 rw [hfl] at hR4
 have q4:GivAt w4 b v4 v2 vl { g with free:=g.free ++ [x],out:=g.out.eraseIdx k }∨True:= .inr trivial
 have m5:=b4.set 7 v4
 have m6:=m5.set 10 (.int .i64 ((g.tail+1)%65536:Nat))
 have m7:=m6.set 13 (.int .i64 (g.left-1:Nat))
 have hown:∀q,v4.ownBlock=some q→vf.ownBlock=some q∨w1.heap.size≤q:=by
  intro q hq
  rcases hat4 with e|⟨b5,e,h5⟩
  ·exact .inl (by rw [←e];exact hq)
  ·rw [e] at hq
   injection hq with hq
   subst hq
   refine .inr ?_
   simp [World.setCell] at h5
   omega
 have far3:∀ {v:Value} {xs:List Int},RowI w4 v xs→RowI (((w4.setCell ⟨b,7,none⟩ v4).setCell ⟨b,10,none⟩ (.int .i64 ((g.tail+1)%65536:Nat))).setCell ⟨b,13,none⟩ (.int .i64 (g.left-1:Nat))) v xs:=fun h=>
  Row.far (Row.far (Row.far h b4 (by decide) 7 _) m5 (by decide) 10 _) m6 (by decide) 13 _
 refine ⟨rfl,v4,v2,⟨m7,far3 hR4,far3 o4,far3 l4, ?_, ?_, ?_⟩, ?_,HO.out, ?_⟩
 ·intro q hq e
  rw [HO.out] at e
  rcases hown q hq with h|h
  ·exact H.out.fo q h e
  ·have:=HLT.out q (.inr (.inr (.inl e)))
   have:=HZ.out
   omega
 ·intro q hq e
  rcases hown q hq with h|h
  ·exact H.out.fl q h e
  ·have:=HLT.out q (.inr (.inr (.inr e)))
   have:=HZ.out
   omega
 ·intro q hq e
  rw [HO.out] at hq
  exact H.out.ol q hq e
 ·exact ((k4.setCell (p:=⟨b,7,none⟩) (fun _=> .inl rfl) _).setCell (p:=⟨b,10,none⟩) (fun _=> .inl rfl) _).setCell (p:=⟨b,13,none⟩) (fun _=> .inl rfl) _
 ·rcases hat4 with e|⟨b5,e,h5⟩
  ·exact .inl e
  ·refine .inr ⟨b5,e, ?_⟩
   simp [World.setCell] at h5
   have:=HZ.out
   omega
end
theorem wp_scope_once {P:Program} {Q:Exit→Act→World→Prop} {a:Act} {w:World} {c rest:Code} (l:Nat) (hf:findLabel c l=some rest)
  (first:c.wp P (Exit.jump l (fun a' w'=>rest.wp P (Exit.noGoto Q) a' w') Q) a w):(Code.scope c).wp P Q a w:=by
 refine wp_scope_jumps l (fun a' w'=>rest.wp P (Exit.noGoto Q) a' w') (fun _ _=>0) hf first ?_
 intro a w h
 refine Code.wp_mono (fun e a' w' h=> ?_) h
 cases e<;>first|exact h|exact (h:False).elim
structure GS (w0:World) (b:Nat) (vf0 vo0 vl:Value) (w:World) (vf vo:Value) (g:Giv):Prop where
 giv:GivAt w b vf vo vl g
 keep:Keep (GivF b vf0 vo0 vl) w0 w
 own:∀q,GivF b vf vo vl q→GivF b vf0 vo0 vl q∨w0.heap.size≤q
def GivTo (w0:World) (b:Nat) (vf0 vo0 vl:Value) (g:Giv) (w:World):Prop:=∃vf vo,GS w0 b vf0 vo0 vl w vf vo g
section
variable {w0 w w':World} {b:Nat} {vf0 vo0 vf vo vl:Value} {g g':Giv}
theorem GS.start (h:GivAt w b vf vo vl g):GS w b vf vo vl w vf vo g:=⟨h,Keep.refl _ _,fun _ h=> .inl h⟩
theorem GS.to (h:GS w0 b vf0 vo0 vl w vf vo g):GivTo w0 b vf0 vo0 vl g w:=⟨vf,vo,h⟩
theorem GS.put (h:GS w0 b vf0 vo0 vl w vf vo g) (j:Nat) (u:Value) (hc:(g.cells vf vo vl).set j u=g'.cells vf vo vl) (h1:g'.free=g.free) (h2:g'.out=g.out) (h3:g'.load=g.load):GS w0 b vf0 vo0 vl (w.setCell ⟨b,j,none⟩ u) vf vo g':=
 ⟨h.giv.put j u hc h1 h2 h3,h.keep.setCell (p:=⟨b,j,none⟩) (fun _=> .inl rfl) u,h.own⟩
theorem GS.drew (h:GS w0 b vf0 vo0 vl w vf vo g):GS w0 b vf0 vo0 vl w.drew vf vo g:=⟨h.giv.fresh (Below.refl _ w).drew,h.keep.drew,h.own⟩
theorem GS.keepOne (h:GS w0 b vf0 vo0 vl w vf vo g) (hk:Keep (fun k=>k=b) w w') (hg:GivAt w' b vf vo vl g'):GS w0 b vf0 vo0 vl w' vf vo g':=
 ⟨hg,h.keep.trans hk (fun k _ e=>by subst e;exact .inl rfl),h.own⟩
theorem GS.fresh (h:GS w0 b vf0 vo0 vl w vf vo g) (hb:Below w.heap.size w w'):GS w0 b vf0 vo0 vl w' vf vo g:=
 ⟨h.giv.fresh hb,h.keep.trans' (Keep.ofFresh hb (B:=0)),h.own⟩
theorem GS.back (h:GS w0 b vf0 vo0 vl w vf vo g) {vf' vo':Value} (h2:GivAt w' b vf' vo' vl g') (hK:Keep (fun q=>q=b∨vf.ownBlock=some q∨vo.ownBlock=some q) w w') (ho:vo'.ownBlock=vo.ownBlock) (hf:vf'.ownBlock=vf.ownBlock∨∃q,vf'.ownBlock=some q∧w.heap.size≤q):
  GS w0 b vf0 vo0 vl w' vf' vo' g':=by
 refine ⟨h2,h.keep.trans hK (fun q hq e=> ?_), ?_⟩
 ·have:GivF b vf vo vl q:=by rcases e with e|e|e<;>first|exact .inl e|exact .inr (.inl e)|exact .inr (.inr (.inl e))
  rcases h.own q this with h1|h1
  ·exact h1
  ·omega
 ·rintro q (e|e|e|e)
  ·exact h.own q (.inl e)
  ·rcases hf with h1|⟨q',h1,h2⟩
   ·exact h.own q (.inr (.inl (by rw [←h1];exact e)))
   ·rw [h1] at e
    injection e with e
    subst e
    exact .inr (Nat.le_trans h.keep.size h2)
  ·exact h.own q (.inr (.inr (.inl (by rw [←ho];exact e))))
  ·exact h.own q (.inr (.inr (.inr e)))
theorem GS.first (h:GS w0 b vf0 vo0 vl w vf vo g) {vf':Value} (h2:GivAt w' b vf' (.slice none 0 0) vl g') (hK:Keep (fun q=>q=b) w w') (hf:∀k,vf'.ownBlock=some k→w.heap.size≤k):
  GS w0 b vf0 vo0 vl w' vf' (.slice none 0 0) g':=by
 refine ⟨h2,h.keep.trans hK (fun q hq e=>by subst e;exact .inl rfl), ?_⟩
 rintro q (e|e|e|e)
 ·exact h.own q (.inl e)
 ·exact .inr (Nat.le_trans h.keep.size (hf q e))
 ·simp [Value.ownBlock] at e
 ·exact h.own q (.inr (.inr (.inr e)))
theorem GS.setFree (h:GS w0 b vf0 vo0 vl w vf vo g) {vf':Value} {fs:List Nat} (hK:Keep (fun q=>vf.ownBlock=some q) w w') (hR:RowI w' vf' (nats fs)) (hown:∀q,vf'.ownBlock=some q→vf.ownBlock=some q∨w.heap.size≤q):
  GS w0 b vf0 vo0 vl (w'.setCell ⟨b,7,none⟩ vf') vf' vo { g with free:=fs }:=by
 have hb:=h.giv.blk.keep hK (fun e=>Row.ne h.giv.free h.giv.blk (by decide) e)
 have hlt:=h.giv.lt
 refine ⟨⟨hb.set 7 vf',Row.far hR hb (by decide) 7 _,Row.far (Row.keep h.giv.out hK (fun q hq e=>h.giv.fo q e hq)) hb (by decide) 7 _,Row.far (Row.keep h.giv.load hK (fun q hq e=>h.giv.fl q e hq)) hb (by decide) 7 _, ?_, ?_,h.giv.ol⟩, ?_, ?_⟩
 ·intro q hq e
  rcases hown q hq with h1|h1
  ·exact h.giv.fo q h1 e
  ·have:=hlt q (.inr (.inr (.inl e)));omega
 ·intro q hq e
  rcases hown q hq with h1|h1
  ·exact h.giv.fl q h1 e
  ·have:=hlt q (.inr (.inr (.inr e)));omega
 ·refine (h.keep.trans hK (fun q hq e=> ?_)).setCell (p:=⟨b,7,none⟩) (fun _=> .inl rfl) vf'
  rcases h.own q (.inr (.inl e)) with h1|h1
  ·exact h1
  ·omega
 ·rintro q (e|e|e|e)
  ·exact h.own q (.inl e)
  ·rcases hown q e with h1|h1
   ·exact h.own q (.inr (.inl h1))
   ·exact .inr (Nat.le_trans h.keep.size h1)
  ·exact h.own q (.inr (.inr (.inl e)))
  ·exact h.own q (.inr (.inr (.inr e)))
theorem GS.setOut (h:GS w0 b vf0 vo0 vl w vf vo g) {vo':Value} {os:List Nat} (hK:Keep (fun q=>vo.ownBlock=some q) w w') (hR:RowI w' vo' (nats os)) (hown:∀q,vo'.ownBlock=some q→vo.ownBlock=some q∨w.heap.size≤q):
  GS w0 b vf0 vo0 vl (w'.setCell ⟨b,8,none⟩ vo') vf vo' { g with out:=os }:=by
 have hb:=h.giv.blk.keep hK (fun e=>Row.ne h.giv.out h.giv.blk (by decide) e)
 have hlt:=h.giv.lt
 refine ⟨⟨hb.set 8 vo',Row.far (Row.keep h.giv.free hK (fun q hq e=>h.giv.fo q hq e)) hb (by decide) 8 _,Row.far hR hb (by decide) 8 _,Row.far (Row.keep h.giv.load hK (fun q hq e=>h.giv.ol q e hq)) hb (by decide) 8 _, ?_,h.giv.fl, ?_⟩, ?_, ?_⟩
 ·intro q hq e
  rcases hown q e with h1|h1
  ·exact h.giv.fo q hq h1
  ·have:=hlt q (.inr (.inl hq));omega
 ·intro q hq e
  rcases hown q hq with h1|h1
  ·exact h.giv.ol q h1 e
  ·have:=hlt q (.inr (.inr (.inr e)));omega
 ·refine (h.keep.trans hK (fun q hq e=> ?_)).setCell (p:=⟨b,8,none⟩) (fun _=> .inl rfl) vo'
  rcases h.own q (.inr (.inr (.inl e))) with h1|h1
  ·exact h1
  ·omega
 ·rintro q (e|e|e|e)
  ·exact h.own q (.inl e)
  ·exact h.own q (.inr (.inl e))
  ·rcases hown q e with h1|h1
   ·exact h.own q (.inr (.inr (.inl h1)))
   ·exact .inr (Nat.le_trans h.keep.size h1)
  ·exact h.own q (.inr (.inr (.inr e)))
end
theorem push_out {W5 w7:World} {vo v7:Value} {xs:List Nat} {d no:Nat} (hno:(nats xs).length=no) (hR:Row w7 3 1 v7 (no+1) (ints (nats xs) ++ [.int .i64 (d:Int)]))
  (hg:(W5.drew.alloc (.cells #[.int .i64 (d:Int)] 3)).grownBy w7 vo.ownBlock) (hat:v7.ownBlock=vo.ownBlock∨∃b,v7.ownBlock=some b∧(W5.drew.alloc (.cells #[.int .i64 (d:Int)] 3)).heap.size≤b):
  RowI w7 v7 (nats (xs ++ [d]))∧Keep (fun q=>vo.ownBlock=some q) W5 w7∧∀q,v7.ownBlock=some q→vo.ownBlock=some q∨W5.heap.size≤q:=by
 have e1:ints (nats xs) ++ [.int .i64 (d:Int)]=ints (nats (xs ++ [d])):=by simp [ints,nats]
 have e2:no+1=(nats (xs ++ [d])).length:=by rw [←hno];simp [nats]
 rw [e1,e2] at hR
 refine ⟨hR,((Keep.refl (fun q=>vo.ownBlock=some q) W5).drew.alloc _).trans' (Keep.grown hg),fun q hq=> ?_⟩
 rcases hat with e|⟨k,e,hk⟩
 ·exact .inl (by rw [←e];exact hq)
 ·rw [e] at hq
  injection hq with hq
  subst hq
  refine .inr ?_
  have:(W5.drew.alloc (.cells #[.int .i64 (d:Int)] 3)).heap.size=W5.heap.size+1:=by simp
  omega
theorem push_run (W:World) (A:Option Addr) (c:Nat) (xs:List Int) (d:Nat) (hl:xs.length≤1000) (h:RowI W (.slice A xs.length c) xs):
  ∃A7 c7 w7,(Builtin.append_ #[31,31] 31 #[.slice A xs.length c, .slice (some ⟨W.heap.size,0,none⟩) 1 1]).run Tryz.prog (W.alloc (.cells #[.int .i64 (d:Int)] 3))= .ok (.slice A7 (xs.length+1) c7) w7∧
   Row w7 3 1 (.slice A7 (xs.length+1) c7) (xs.length+1) (ints xs ++ [.int .i64 (d:Int)])∧(W.alloc (.cells #[.int .i64 (d:Int)] 3)).grownBy w7 (Value.slice A xs.length c).ownBlock∧
   ((Value.slice A7 (xs.length+1) c7).ownBlock=(Value.slice A xs.length c).ownBlock∨∃b,(Value.slice A7 (xs.length+1) c7).ownBlock=some b∧(W.alloc (.cells #[.int .i64 (d:Int)] 3)).heap.size≤b):=by
 obtain ⟨i0,hi,hzz⟩:=Option.map_eq_some_iff.1 info3
 simp only [Prod.mk.injEq] at hzz
 obtain ⟨hz0,hz1,hz2⟩:=hzz
 have hb:Below W.heap.size W (W.alloc (.cells #[.int .i64 (d:Int)] 3)):=(Below.refl _ _).alloc (Nat.le_refl _) _
 have n6:=Blk.new W 3 [.int .i64 (d:Int)]
 obtain ⟨v7,w7,hr,h1,h2,h3⟩:=Row.append (P:=Tryz.prog) (W.alloc (.cells #[.int .i64 (d:Int)] 3)) 31 31 3 i0 _ 1 8 under31 hi hz0 hz1 hz2 rfl (by decide) _ _ _ (Row.below h hb) ⟨W.heap.size,0,none⟩ 1 1 [.int .i64 (d:Int)] rfl
  (by intro j u hu;rw [add_lit,Nat.zero_add];exact (n6.cell j).trans hu) (by intro u hu;rw [List.mem_singleton.1 hu];rfl) (by unfold maxLen;omega) (by omega)
 obtain ⟨A7,c7,hv7, -, -⟩:=Row.slice h1
 subst hv7
 exact ⟨A7,c7,w7,hr,h1,h2,h3⟩
theorem push_step {ops:Array Oper} {o:Oper} {a:Act} {Q':Exit→Act→World→Prop} {Kc:Act→World→Prop} {E:Prop} {W w':World} {v u v':Value} (hw:Region.wanted o (yielded ops a.tmps)=true) (s x:Operand)
  (ho:o.op= .call { callee:= .builtin .append,args:= #[s,x],argTypes:= #[31,31] }) (hty:o.type=31) (hs:a.eval s=v) (hx:a.eval x=u) (hr:(Builtin.append_ #[31,31] 31 #[v,u]).run Tryz.prog W= .ok v' w') (k:Kc (a.put o.dst v') w'):
  if Region.wanted o (yielded ops a.tmps)=true then Oper.wp Tryz.prog o a W Kc Q' else E:=by
 rw [if_pos hw]
 unfold Oper.wp execOp
 simp only [ho,hty,resolve,invoke,builtin,Sem.run_bind,Sem.run_pure,Result.andThen_ok,List.map_toArray,List.map_cons,List.map_nil,hs,hx,hr]
 exact k
section
variable (b:Nat) (vf vo vl:Value) (g:Giv) (w:World) (p:Value) (x:Int) (T:World→Prop) (h:GivAt w b vf vo vl g) (hT:Calls Tryz.prog 158 #[.pointer (some ⟨b,0,none⟩),p] w fun e w'=>e= .returned (.int .i64 x)∧T w') (hg:∀w',T w'→GivAt w' b vf vo vl g)
include h hT hg
set_option maxRecDepth 100000 in
theorem gStep8w (hpc:g.pc=8) (hi:g.i≤8) (hll:g.i+1<g.load.length):
  Calls Tryz.prog 157 #[.pointer (some ⟨b,0,none⟩),p] w fun e w'=>e= .returned (.tuple #[.bool false, .int .i64 0])∧∃w1,T w1∧GivTo w1 b vf vo vl ({ g with i:=g.i+1,pc:=8 }) w':=by
 have c11:=h.blk.cell 11
 simp only [Giv.cells,List.getElem?_cons_zero,List.getElem?_cons_succ,hpc] at c11
 obtain ⟨Al,cl,hvl, -, -⟩:=Row.slice h.load
 subst hvl
 generalize hnl:(nats g.load).length=nl at *
 have nl0:(g.i:Int)+1<(nl:Int):=by rw [←hnl,nats_len];omega
 have nl1:IntKind.i64.wrap ((g.i:Int)+1)=(g.i:Int)+1:=by rw [IntKind.wrap_i64];omega
 clear hnl hll
 have HT:=Lib.hid hT;clear hT
 have HG:=Lib.hid hg;clear hg h
 go_enter Tryz.func157,Tryz.ntmps157
 go_wp2_with fail
 refine wp_scope_once 2 rfl ?_
 go_wp2_with fail
 refine HT.out.mono ?_
 rintro e w1 ⟨rfl,ht⟩
 have hw1:=HG.out w1 ht
 have HW:=Lib.hid ht;clear ht
 have c11:=hw1.blk.cell 11
 simp only [Giv.cells,List.getElem?_cons_zero,List.getElem?_cons_succ,hpc] at c11
 have hs1:=GS.start hw1;clear hw1
 have c12:=hs1.giv.blk.cell 12
 simp only [Giv.cells,List.getElem?_cons_zero,List.getElem?_cons_succ] at c12
 have f12:=hs1.giv.blk.free 12
 have he:((g.i:Int)+1)=((g.i+1:Nat):Int):=by omega
 have hs2:=hs1.put (g':= { g with i:=g.i+1 }) 12 (.int .i64 ((g.i:Int)+1)) (by rw [he];rfl) rfl rfl rfl
 have HS2:=Lib.hid hs2;clear hs1 hs2 he
 go_wp2_with fail
 go_step3
 refine ⟨rfl, ?_⟩
 have hs3:=HS2.out
 clear c11 c12 f12
 generalize w1.setCell ⟨b,12,none⟩ (Value.int IntKind.i64 ((g.i:Int)+1))=W3 at hs3 ⊢
 have c12:W3.cell? ⟨b,12,none⟩=some (.int .i64 ((g.i:Int)+1)):=by have:=hs3.giv.blk.cell 12;simpa [Giv.cells] using this
 have c11:=hs3.giv.blk.cell 11
 have c16:=hs3.giv.blk.cell 16
 simp only [Giv.cells,List.getElem?_cons_zero,List.getElem?_cons_succ] at c11 c16
 have f11:=hs3.giv.blk.free 11
 go_wp2_with fail
 go_region
 go_wp2_with fail
 rw [Exit.noGoto_ret]
 go_ret2
 exact ⟨rfl,w1,HW.out,((hs3.put (g':= { g with i:=g.i+1,pc:=8 }) 11 (.int .i64 8) rfl rfl rfl rfl).drew).to⟩
set_option maxRecDepth 100000 in
theorem gStep8s (hpc:g.pc=8) (hi:g.i≤8) (hll:g.load.length≤g.i+1):
  Calls Tryz.prog 157 #[.pointer (some ⟨b,0,none⟩),p] w fun e w'=>e= .returned (.tuple #[.bool false, .int .i64 0])∧∃w1,T w1∧GivTo w1 b vf vo vl ({ g with i:=g.i+1,pc:=9 }) w':=by
 have c11:=h.blk.cell 11
 simp only [Giv.cells,List.getElem?_cons_zero,List.getElem?_cons_succ,hpc] at c11
 obtain ⟨Al,cl,hvl, -, -⟩:=Row.slice h.load
 subst hvl
 generalize hnl:(nats g.load).length=nl at *
 have nl0:(nl:Int)≤(g.i:Int)+1:=by rw [←hnl,nats_len];omega
 have nl1:IntKind.i64.wrap ((g.i:Int)+1)=(g.i:Int)+1:=by rw [IntKind.wrap_i64];omega
 clear hnl hll
 have HT:=Lib.hid hT;clear hT
 have HG:=Lib.hid hg;clear hg h
 go_enter Tryz.func157,Tryz.ntmps157
 go_wp2_with fail
 refine wp_scope_once 2 rfl ?_
 go_wp2_with fail
 refine HT.out.mono ?_
 rintro e w1 ⟨rfl,ht⟩
 have hw1:=HG.out w1 ht
 have HW:=Lib.hid ht;clear ht
 have c11:=hw1.blk.cell 11
 simp only [Giv.cells,List.getElem?_cons_zero,List.getElem?_cons_succ,hpc] at c11
 have hs1:=GS.start hw1;clear hw1
 have c12:=hs1.giv.blk.cell 12
 simp only [Giv.cells,List.getElem?_cons_zero,List.getElem?_cons_succ] at c12
 have f12:=hs1.giv.blk.free 12
 have he:((g.i:Int)+1)=((g.i+1:Nat):Int):=by omega
 have hs2:=hs1.put (g':= { g with i:=g.i+1 }) 12 (.int .i64 ((g.i:Int)+1)) (by rw [he];rfl) rfl rfl rfl
 have HS2:=Lib.hid hs2;clear hs1 hs2 he
 go_wp2_with fail
 go_step3
 refine ⟨rfl, ?_⟩
 have hs3:=HS2.out
 clear c11 c12 f12
 generalize w1.setCell ⟨b,12,none⟩ (Value.int IntKind.i64 ((g.i:Int)+1))=W3 at hs3 ⊢
 have c12:W3.cell? ⟨b,12,none⟩=some (.int .i64 ((g.i:Int)+1)):=by have:=hs3.giv.blk.cell 12;simpa [Giv.cells] using this
 have c11:=hs3.giv.blk.cell 11
 have c16:=hs3.giv.blk.cell 16
 simp only [Giv.cells,List.getElem?_cons_zero,List.getElem?_cons_succ] at c11 c16
 have f11:=hs3.giv.blk.free 11
 go_wp2_with fail
 go_region
 go_wp2_with fail
 rw [Exit.noGoto_ret]
 go_ret2
 exact ⟨rfl,w1,HW.out,(((hs3.put (g':= { g with i:=g.i+1,pc:=8 }) 11 (.int .i64 8) rfl rfl rfl rfl).drew).put (g':= { g with i:=g.i+1,pc:=9 }) 11 (.int .i64 9) rfl rfl rfl rfl).to⟩
set_option maxRecDepth 100000 in
theorem gStep4 (hpc:g.pc=4) (hr1:1≤g.ring) (hr:g.ring≤64):
  Calls Tryz.prog 157 #[.pointer (some ⟨b,0,none⟩),p] w fun e w'=>e= .returned (.tuple #[.bool true, .int .i64 8])∧∃w1,T w1∧GivTo w1 b vf vo vl (g.first) w':=by
 have c11:=h.blk.cell 11
 simp only [Giv.cells,List.getElem?_cons_zero,List.getElem?_cons_succ,hpc] at c11
 have HT:=Lib.hid hT;clear hT
 have HG:=Lib.hid hg;clear hg h
 go_enter Tryz.func157,Tryz.ntmps157
 go_wp2_with fail
 go_step3
 go_wp2_with fail
 refine HT.out.mono ?_
 rintro e w1 ⟨rfl,ht⟩
 have hw1:=HG.out w1 ht
 have HW:=Lib.hid ht;clear ht
 have c11:=hw1.blk.cell 11
 simp only [Giv.cells,List.getElem?_cons_zero,List.getElem?_cons_succ,hpc] at c11
 have hs1:=GS.start hw1;clear hw1
 have HF:=Lib.hid (gFirst_any b vf vo vl g hr1 hr w1 hs1.giv)
 have HS1:=Lib.hid hs1;clear hs1
 go_wp2_with fail
 refine HF.out.mono ?_
 rintro e w2 ⟨rfl,vf2,h2,hk2,hf2⟩
 have hs3:=HS1.out.first h2 hk2 hf2
 have HS3:=Lib.hid hs3;clear h2 hk2 hf2 hs3
 go_wp2_with fail
 rw [Exit.noGoto_ret]
 go_ret2
 exact ⟨rfl,w1,HW.out,HS3.out.to⟩
set_option maxRecDepth 100000 in
theorem gStep5y (hpc:g.pc=5) (hx:x=g.ep):
  Calls Tryz.prog 157 #[.pointer (some ⟨b,0,none⟩),p] w fun e w'=>e= .returned (.tuple #[.bool false, .int .i64 0])∧∃w1,T w1∧GivTo w1 b vf vo vl ({ g with linked:=true,pc:=6 }) w':=by
 have c11:=h.blk.cell 11
 simp only [Giv.cells,List.getElem?_cons_zero,List.getElem?_cons_succ,hpc] at c11
 subst hx
 have HT:=Lib.hid hT;clear hT
 have HG:=Lib.hid hg;clear hg h
 go_enter Tryz.func157,Tryz.ntmps157
 go_wp2_with fail
 go_step3
 go_wp2_with fail
 refine HT.out.mono ?_
 rintro e w1 ⟨rfl,ht⟩
 have hw1:=HG.out w1 ht
 have HW:=Lib.hid ht;clear ht
 have c11:=hw1.blk.cell 11
 simp only [Giv.cells,List.getElem?_cons_zero,List.getElem?_cons_succ,hpc] at c11
 have hs1:=GS.start hw1;clear hw1
 have HE:=Lib.hid (from_below (Below.refl w1.heap.size w1) (gEpoch_any b vf vo vl g w1 hs1.giv))
 have HS1:=Lib.hid hs1;clear hs1
 generalize hge:g.ep=gep at *
 clear hge
 go_wp2_with fail
 refine HE.out.mono ?_
 rintro e w2 ⟨rfl,hb2⟩
 have hs2:=HS1.out.fresh hb2
 clear hb2 c11
 have c6:=hs2.giv.blk.cell 6
 have c11:=hs2.giv.blk.cell 11
 simp only [Giv.cells,List.getElem?_cons_zero,List.getElem?_cons_succ] at c6 c11
 have f6:=hs2.giv.blk.free 6
 have f11:=hs2.giv.blk.free 11
 have HF:=Lib.hid ((hs2.put (g':= { g with linked:=true }) 6 (.bool true) rfl rfl rfl rfl).put (g':= { g with linked:=true,pc:=6 }) 11 (.int .i64 6) rfl rfl rfl rfl);clear hs2
 go_wp2_with fail
 rw [Exit.noGoto_ret]
 go_ret2
 exact ⟨rfl,w1,HW.out,HF.out.to⟩
set_option maxRecDepth 100000 in
theorem gStep5n (hpc:g.pc=5) (hx:x≠g.ep):
  Calls Tryz.prog 157 #[.pointer (some ⟨b,0,none⟩),p] w fun e w'=>e= .returned (.tuple #[.bool true, .int .i64 9])∧∃w1,T w1∧GivTo w1 b vf vo vl ({ g with pc:=0 }) w':=by
 have c11:=h.blk.cell 11
 simp only [Giv.cells,List.getElem?_cons_zero,List.getElem?_cons_succ,hpc] at c11
 have hx0:(x == g.ep)=false:=by simpa using hx
 have HT:=Lib.hid hT;clear hT
 have HG:=Lib.hid hg;clear hg h
 go_enter Tryz.func157,Tryz.ntmps157
 go_wp2_with fail
 go_step3
 go_wp2_with fail
 refine HT.out.mono ?_
 rintro e w1 ⟨rfl,ht⟩
 have hw1:=HG.out w1 ht
 have HW:=Lib.hid ht;clear ht
 have c11:=hw1.blk.cell 11
 simp only [Giv.cells,List.getElem?_cons_zero,List.getElem?_cons_succ,hpc] at c11
 have hs1:=GS.start hw1;clear hw1
 have HE:=Lib.hid (from_below (Below.refl w1.heap.size w1) (gEpoch_any b vf vo vl g w1 hs1.giv))
 have HS1:=Lib.hid hs1;clear hs1
 generalize hge:g.ep=gep at *
 clear hge
 go_wp2_with fail
 refine HE.out.mono ?_
 rintro e w2 ⟨rfl,hb2⟩
 have hs2:=HS1.out.fresh hb2
 clear hb2 c11
 have c6:=hs2.giv.blk.cell 6
 have c11:=hs2.giv.blk.cell 11
 simp only [Giv.cells,List.getElem?_cons_zero,List.getElem?_cons_succ] at c6 c11
 have f6:=hs2.giv.blk.free 6
 have f11:=hs2.giv.blk.free 11
 have HF:=Lib.hid (hs2.put (g':= { g with pc:=0 }) 11 (.int .i64 0) rfl rfl rfl rfl);clear hs2
 go_wp2_with fail
 rw [Exit.noGoto_ret]
 go_ret2
 exact ⟨rfl,w1,HW.out,HF.out.to⟩
set_option maxRecDepth 100000 in
theorem gStep14 (hpc:g.pc=14)  :
  Calls Tryz.prog 157 #[.pointer (some ⟨b,0,none⟩),p] w fun e w'=>e= .returned (.tuple #[.bool false, .int .i64 0])∧∃w1,T w1∧GivTo w1 b vf vo vl ({ g with pc:=15,answer:=0 }) w':=by
 have c11:=h.blk.cell 11
 simp only [Giv.cells,List.getElem?_cons_zero,List.getElem?_cons_succ,hpc] at c11
 have HT:=Lib.hid hT;clear hT
 have HG:=Lib.hid hg;clear hg h
 go_enter Tryz.func157,Tryz.ntmps157
 go_wp2_with fail
 go_step3
 go_wp2_with fail
 refine HT.out.mono ?_
 rintro e w1 ⟨rfl,ht⟩
 have hw1:=HG.out w1 ht
 have HW:=Lib.hid ht;clear ht
 have c11:=hw1.blk.cell 11
 simp only [Giv.cells,List.getElem?_cons_zero,List.getElem?_cons_succ,hpc] at c11
 have hs1:=GS.start hw1;clear hw1
 have c15:=hs1.giv.blk.cell 15
 simp only [Giv.cells,List.getElem?_cons_zero,List.getElem?_cons_succ] at c15
 have f11:=hs1.giv.blk.free 11
 have f15:=hs1.giv.blk.free 15
 have HF:=Lib.hid ((hs1.put (g':= { g with pc:=15 }) 11 (.int .i64 15) rfl rfl rfl rfl).put (g':= { g with pc:=15,answer:=0 }) 15 (.int .i64 0) rfl rfl rfl rfl);clear hs1
 go_wp2_with fail
 rw [Exit.noGoto_ret]
 go_ret2
 exact ⟨rfl,w1,HW.out,HF.out.to⟩
set_option maxRecDepth 100000 in
theorem gStep15 (hpc:g.pc=15)  :
  Calls Tryz.prog 157 #[.pointer (some ⟨b,0,none⟩),p] w fun e w'=>e= .returned (.tuple #[.bool true, .int .i64 (g.over x).2])∧∃w1,T w1∧GivTo w1 b vf vo vl ((g.over x).1) w':=by
 have c11:=h.blk.cell 11
 simp only [Giv.cells,List.getElem?_cons_zero,List.getElem?_cons_succ,hpc] at c11
 have hE:=fun w1 h=>gEnd_any b vf vo vl g x w1 h
 generalize (g.over x).2=ans at *
 have HT:=Lib.hid hT;clear hT
 have HG:=Lib.hid hg;clear hg h
 go_enter Tryz.func157,Tryz.ntmps157
 go_wp2_with fail
 go_step3
 go_wp2_with fail
 refine HT.out.mono ?_
 rintro e w1 ⟨rfl,ht⟩
 have hw1:=HG.out w1 ht
 have HW:=Lib.hid ht;clear ht
 have c11:=hw1.blk.cell 11
 simp only [Giv.cells,List.getElem?_cons_zero,List.getElem?_cons_succ,hpc] at c11
 have hs1:=GS.start hw1;clear hw1
 have HE:=Lib.hid (hE w1 hs1.giv)
 have HS1:=Lib.hid hs1;clear hs1 hE
 go_wp2_with fail
 refine HE.out.mono ?_
 rintro e w2 ⟨rfl,h2,hk2⟩
 have HF:=Lib.hid (HS1.out.keepOne hk2 h2);clear h2 hk2
 go_wp2_with fail
 rw [Exit.noGoto_ret]
 go_ret2
 exact ⟨rfl,w1,HW.out,HF.out.to⟩
end
end Go.Proofs.YtaaffebnajjfhaaGreatDoor.T
