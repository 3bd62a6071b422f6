/- Texts of this proof, merged: Find, Load. -/
import Derived.RangeFuncBox
import Derived.RangeFuncCalls
import Derived.RangeFuncLeaves
import Derived.Shelf.Abstract
import Derived.WalkKit
import Derived.OwnWalkIn
import Derived.TacticsInMore
import Derived.LoopNIn
import Derived.LoopIn
import Derived.Test.YtaaffebnajjfhaaGreatDoorH04
import Derived.Deep.RegionHeld3
import Derived.Deep.DrawnRows
import Derived.Deep.DeepCutAuto
namespace Go.Proofs.YtaaffebnajjfhaaGreatDoor.T
set_option linter.unusedVariables false
set_option linter.unusedSimpArgs false
set_option linter.unusedSectionVars false
open Go.RowKit
section
open Go.RowKit Go.Shelf
attribute [local go_sem] Oper.semAt_some
abbrev W16:= { x:Nat × Nat // x.1<65536∧x.2<65536 }
def w0:W16:=⟨(0,0),by decide,by decide⟩
def cx (x:W16):Value:= .complex .f64 (fl x.1.1) (fl x.1.2)
def back (zs:List W16) (k:Nat):Nat × W16:=(zs.length-1-k,zs[zs.length-1-k]?.getD w0)
def upto (zs:List W16) (k:Nat):List (Nat × W16):=(List.range k).map (back zs)
theorem upto_succ (zs:List W16) (k:Nat):upto zs (k+1)=upto zs k ++ [back zs k]:=by simp [upto,List.range_succ]
theorem upto_length (zs:List W16) (k:Nat):(upto zs k).length=k:=by simp [upto]
set_option maxRecDepth 100000 in
set_option maxHeartbeats 2000000 in
theorem back1_in (F:Fence) (n:Nat) (h8:F.fn 203) (hro:F.round=none) (hn:1≤n) (l Bs n₀ b off cap:Nat) (zs:List W16) (hreach:zs.length≤100) (hb:b<n₀) (J Jx:List (Nat × W16)→World→Prop)
  (hY:∀pre x W,J pre W→pre.length<zs.length→YieldAt F (n-1) Tryz.prog l #[.int .i64 (x.1:Int),cx x.2] W fun e W'=>
   (e= .returned (.bool true)∧J (pre ++ [x]) W'∧Below n₀ W W')∨(e= .returned (.bool false)∧Jx (pre ++ [x]) W'))
  (W:World) (hBs:W.cell? ⟨Bs,0,none⟩=some (.slice (some ⟨b,off,none⟩) zs.length cap)) (hBl:Bs<n₀) (hc:∀j,j<zs.length→W.cell? ⟨b,off+j,none⟩=some (cx (zs[j]?.getD w0))) (h0:J [] W):
  CallsIn F n Tryz.prog 203 #[.func (.yield l) #[] #[], .pointer (some ⟨Bs,0,none⟩)] W fun e W'=>(∃v,e= .returned v)∧
   ((∃ys,ys=upto zs zs.length∧J ys W')∨(∃pre,(∃k,k≤zs.length∧pre=upto zs k)∧Jx pre W')):=by
 obtain ⟨len,hlen⟩:∃len,len=zs.length:=⟨_,rfl⟩
 rw [←hlen] at hBs hreach
 have hw:wrap64 ((len:Int)-1)=(len:Int)-1:=by unfold wrap64;omega
 refine callsIn_of_wp Tryz.func203 rfl h8 ?_ hro
 simp only [Tryz.ntmps203,List.size_toArray,List.length_cons,List.length_nil,Nat.reduceAdd,Nat.reduceSub,Array.replicate_succ,Array.replicate_zero,List.push_toArray,List.append_toArray,List.nil_append,List.cons_append]
 have HL:=Lib.hid hlen;clear hlen
 gi_wp2
 gi_loopw [3] (fun i wr=>∃k:Nat,((k=len∧i= .int .i64 (-1))∨∃j:Nat,k+j+1=len∧i= .int .i64 j)∧J (upto zs k) wr∧Below n₀ W wr)
  (fun i _=>(intOf i+1).toNat)
 case atStart=>
  refine ⟨0, ?_,h0,Below.refl _ _⟩
  by_cases hz:len=0
  ·exact .inl ⟨hz.symm,by subst hz;rfl⟩
  ·exact .inr ⟨len-1,by omega,by congr 1;omega⟩
 case round=>
  obtain ⟨k,hi,hJs,hnx⟩:=hrel
  have hBs':=(hnx.cell (p:=⟨Bs,0,none⟩) hBl).trans hBs
  rcases hi with ⟨rfl,rfl⟩|⟨j,hkj,rfl⟩
  ·gi_wp2
   go_end0
   exact ⟨⟨_,rfl⟩, .inl ⟨_,rfl,by rw [←HL.out];exact hJs⟩⟩
  ·have hlt:k<len:=by omega
   have hj:zs.length-1-k=j:=by rw [←HL.out];omega
   obtain ⟨fn,tmps,assign,body,hy,hR⟩:=hY _ (back zs k) wr hJs (by rw [upto_length, ←HL.out];exact hlt)
   have hbk:back zs k=(j,zs[j]?.getD w0):=by unfold back;rw [hj]
   rw [hbk] at hy
   dsimp only at hy
   have hcx:=(hnx.cell (p:=⟨b,off+j,none⟩) hb).trans (hc j (by rw [←HL.out];omega))
   have HBK:=Lib.hid hbk;clear hbk
   generalize zs[j]?.getD w0=z at *
   unfold cx at hcx hy
   have hj0:(0:Int)≤(j:Int):=by omega
   have hjl:(j:Int)<(len:Int):=by omega
   clear hj
   gi_wp2
   refine hR.mono ?_
   rintro e W3 (⟨rfl,hJ3,hk3⟩|⟨rfl,hJx3⟩)
   ·gi_wp2
    go_roundw
    case rel=>
     refine ⟨k+1, ?_,by rw [upto_succ];exact hJ3,hnx.trans hk3⟩
     cases j with
     | zero=>exact .inl ⟨by omega,by simp [wrap64]⟩
     | succ j'=>exact .inr ⟨j',by omega,by congr 1;omega⟩
    case measure=>simp [intOf]
   ·gi_wp2
    refine bodyPost_ret (results_none rfl _ _ _) rfl ?_
    exact ⟨⟨_,rfl⟩, .inr ⟨_,⟨k+1,by rw [←HL.out];omega,(upto_succ _ _).symm⟩,hJx3⟩⟩
set_option maxRecDepth 100000 in
set_option maxHeartbeats 1000000 in
theorem back1_nil_in (F:Fence) (n:Nat) (h8:F.fn 203) (hro:F.round=none) (l Bs:Nat) (J:List (Nat × W16)→World→Prop) (W:World) (hBs:W.cell? ⟨Bs,0,none⟩=some (.slice none 0 0)) (h0:J [] W):
  CallsIn F n Tryz.prog 203 #[.func (.yield l) #[] #[], .pointer (some ⟨Bs,0,none⟩)] W fun e W'=>(∃v,e= .returned v)∧J [] W':=by
 refine callsIn_of_wp Tryz.func203 rfl h8 ?_ hro
 simp only [Tryz.ntmps203,List.size_toArray,List.length_cons,List.length_nil,Nat.reduceAdd,Nat.reduceSub,Array.replicate_succ,Array.replicate_zero,List.push_toArray,List.append_toArray,List.nil_append,List.cons_append]
 gi_wp2
 gi_loopw [3] (fun i wr=>i= .int .i64 (-1)∧J [] wr) (fun _ _=>0)
 case atStart=>exact ⟨rfl,h0⟩
 case round=>
  obtain ⟨rfl,hJs⟩:=hrel
  gi_wp2
  go_end0
  exact ⟨⟨_,rfl⟩,hJs⟩
def Stores (n₀:Nat) (W:World) (sv:Value) (zs:List W16):Prop:=
 (sv= .slice none 0 0∧zs= [])∨∃b off cap,sv= .slice (some ⟨b,off,none⟩) zs.length cap∧b<n₀∧∀j,j<zs.length→W.cell? ⟨b,off+j,none⟩=some (cx (zs[j]?.getD w0))
theorem Stores.below {n₀:Nat} {A B:World} (h:Below n₀ A B) {sv:Value} {zs:List W16}:Stores n₀ A sv zs→Stores n₀ B sv zs
 | .inl e=> .inl e
 | .inr ⟨b,off,cap,e,hb,hc⟩=> .inr ⟨b,off,cap,e,hb,fun j hj=>(h.cell (p:=⟨b,off+j,none⟩) hb).trans (hc j hj)⟩
theorem back_stops (F:Fence) (n:Nat) (h8:F.fn 203) (hro:F.round=none) (hn:1≤n) (Bs n₀:Nat) (sv:Value) (zs:List W16) (hreach:zs.length≤100) (w:World) (hBs:Bs<n₀) (hn₀:n₀≤w.heap.size)
  (hc:w.cell? ⟨Bs,0,none⟩=some sv) (hI:Stores n₀ w sv zs):
  SeqStopsK F n Tryz.prog 203 #[.pointer (some ⟨Bs,0,none⟩)] (fun x:Nat × W16=> #[Value.int .i64 (x.1:Int),cx x.2]) (Below n₀) (fun ys=>ys=upto zs zs.length)
   (fun pre=>∃k,k≤zs.length∧pre=upto zs k) zs.length w:=fun l J Jx W hW _ _ hY h0=>by
 have hc':=(hW.cell (p:=⟨Bs,0,none⟩) (Nat.lt_of_lt_of_le hBs hn₀)).trans hc
 rcases hI.below (hW.mono hn₀) with ⟨rfl,rfl⟩|⟨b,off,cap,rfl,hb,hcs⟩
 ·exact (back1_nil_in F n h8 hro l Bs J W hc' h0).mono fun e W' ⟨he,hj⟩=>⟨he, .inl ⟨_,rfl,hj⟩⟩
 ·exact back1_in F n h8 hro hn l Bs n₀ b off cap zs hreach hb J Jx hY W hc' hBs hcs h0
theorem backward_any (A:Option Addr) (len cap:Nat) (w:World):
  Calls Tryz.prog 202 #[.slice A len cap] w fun e w'=>e= .returned (.func (.func 203) #[] #[.pointer (some ⟨w.heap.size,0,none⟩)])∧w'=w.alloc (.cells #[.slice A len cap] 184):=by
 go_enter Tryz.func202,Tryz.ntmps202
 go_wp2_with fail
 go_ret
 exact ⟨rfl,rfl⟩
theorem parts_two (xa xw:Nat) (h1:xa<65536) (h2:xw<65536) (w:World):
  Calls Tryz.prog 131 #[.complex .f64 (fl xa) (fl xw)] w fun e w'=>e= .returned (.tuple #[.int .i64 xa, .int .i64 xw, .bool true])∧w=w':=parts_any (xa,xw) h1 h2 w
def lastAt (zs:List W16) (a:Nat):Option Nat:=(zs.reverse.find? fun x=>x.1.1 == a).map fun x=>x.1.2
def findR:Option Nat→Value
 | none=> .tuple #[.int .i64 0, .bool false]
 | some x=> .tuple #[.int .i64 x, .bool true]
theorem upto_all (zs:List W16):∀k,k≤zs.length→(upto zs k).map (·.2)=zs.reverse.take k:=by
 intro k hk
 apply List.ext_getElem?
 intro i
 by_cases hi:i<k
 ·rw [List.getElem?_take,if_pos hi,List.getElem?_reverse (by omega),List.getElem?_map]
  have:(upto zs k)[i]? = some (back zs i):=by simp [upto,hi]
  rw [this]
  have hlt:zs.length-1-i<zs.length:=by omega
  simp [back,hlt]
 ·rw [List.getElem?_eq_none (by simp [upto];omega),List.getElem?_eq_none (by simp;omega)]
theorem last_none (zs:List W16) (a:Nat) (h:∀p∈upto zs zs.length,p.2.1.1≠a):lastAt zs a=none:=by
 unfold lastAt
 have e:=upto_all zs zs.length (Nat.le_refl _)
 rw [List.take_of_length_le (by simp)] at e
 rw [Option.map_eq_none_iff,List.find?_eq_none]
 intro x hx
 rw [←e] at hx
 obtain ⟨p,hp,rfl⟩:=List.mem_map.1 hx
 simpa using h p hp
theorem last_some (zs:List W16) (a k:Nat) (hk:k≤zs.length) (ini:List (Nat × W16)) (last:Nat × W16) (e1:upto zs k=ini ++ [last]) (e2:∀p∈ini,p.2.1.1≠a) (e3:last.2.1.1=a):lastAt zs a=some last.2.1.2:=by
 unfold lastAt
 have e:=upto_all zs k hk
 rw [e1] at e
 have h:=List.take_append_drop k zs.reverse
 rw [←e] at h
 rw [←h,List.map_append,List.append_assoc,List.find?_append,List.find?_eq_none.2 (fun x hx=>by
  obtain ⟨p,hp,rfl⟩:=List.mem_map.1 hx
  simpa using e2 p hp)]
 simp [e3]
set_option maxRecDepth 100000 in
set_option maxHeartbeats 2000000 in
theorem find_in (A:Option Addr) (len cap a:Nat) (zs:List W16) (hreach:zs.length≤100) (w:World) (hI:Stores w.heap.size w (.slice A len cap) zs):
  CallsIn Fence.wide 3 Tryz.prog 198 #[.slice A len cap, .int .i64 a] w fun e W'=>
   e= .returned (findR (lastAt zs a))∧Below w.heap.size w W':=by
 have hro:Fence.wide.round=none:=rfl
 refine callsIn_of_wp_marks Tryz.func198 rfl trivial ?_ hro
 simp only [Tryz.ntmps198,List.size_toArray,List.length_cons,List.length_nil,Nat.reduceAdd,Nat.reduceSub,Array.replicate_succ,Array.replicate_zero,List.push_toArray,List.append_toArray,List.nil_append,List.cons_append]
 gi_wp2_with (refine ⟨trivial, ?_⟩;gi_at_call 202;refine (callsIn_wide.2 (backward_any A len cap _)).mono ?_;rintro e w' ⟨rfl,rfl⟩)
 obtain ⟨h3,b1,b2,b3⟩:=three_boxes w 3 3 4 (.int .i64 a) (.int .i64 0) (.bool false)
 have hB0:=h3.alloc (by simp;omega) (.cells #[.slice A len cap] 184)
 have b4:=Blk.new (((w.alloc (.cells #[.int .i64 a] 3)).alloc (.cells #[.int .i64 0] 3)).alloc (.cells #[.bool false] 4)) 184 [.slice A len cap]
 have b1':=b1.alloc (.cells #[.slice A len cap] 184)
 have b2':=b2.alloc (.cells #[.slice A len cap] 184)
 have b3':=b3.alloc (.cells #[.slice A len cap] 184)
 simp only [World.size_alloc] at b4
 have hI4:Stores (w.heap.size+4) ((((w.alloc (.cells #[.int .i64 a] 3)).alloc (.cells #[.int .i64 0] 3)).alloc (.cells #[.bool false] 4)).alloc (.cells #[.slice A len cap] 184)) (.slice A len cap) zs:=by
  rcases hI.below hB0 with h|⟨b,off,c,h,hb,hc⟩
  ·exact .inl h
  ·exact .inr ⟨b,off,c,h,by omega,hc⟩
 refine wpIn_rangeFunc_ownG hro (by decide) (gf:=203) (lb:= #[.pointer (some ⟨w.heap.size+1+1+1,0,none⟩)]) rfl trivial (enters_of Tryz.func203 (by kernel_rfl) rfl)
  (back_stops Fence.wide 2 trivial hro (by decide) (w.heap.size+1+1+1) (w.heap.size+4) _ zs hreach _ (by omega) (by simp) (by rw [b4.cell];rfl) hI4) belowK_t (belowK_b (by simp)) (Below.refl _ _) (fun _=>rfl)
  (fun pre W=>((∀p∈pre,p.2.1.1≠a)∧(W.cell? ⟨w.heap.size,0,none⟩=some (.int .i64 a))∧(W.cell? ⟨w.heap.size+1,0,none⟩=some (.int .i64 0)∧W.frozen? ⟨w.heap.size+1,0,none⟩=false)∧W.cell? ⟨w.heap.size+2,0,none⟩=some (.bool false)∧W.frozen? ⟨w.heap.size+2,0,none⟩=false)∧Below w.heap.size w W)
  (fun c pre W=>(c= .ret∧∃ini last,pre=ini ++ [last]∧(∀p∈ini,p.2.1.1≠a)∧last.2.1.1=a∧W.cell? ⟨w.heap.size+1,0,none⟩=some (.int .i64 (last.2.1.2:Int))∧W.cell? ⟨w.heap.size+2,0,none⟩=some (.bool true))∧Below w.heap.size w W)
  (OwnFrom.and (Own.from (fun s A B row hs hg hr=>⟨hs.1,cell_kept hs.2.1 hg hr,⟨cell_kept hs.2.2.1.1 hg hr,(frozen_kept hs.2.2.1.1 hg hr).trans hs.2.2.1.2⟩,cell_kept hs.2.2.2.1 hg hr,(frozen_kept hs.2.2.2.1 hg hr).trans hs.2.2.2.2⟩) _) (ownFrom_below (Nat.le_refl _) (by simp;omega)))
  (fun c=>OwnFrom.and (Own.from (fun s A B row hs hg hr=>by obtain ⟨hc,ini,last,e1,e2,e3,e4,e5⟩:=hs;exact ⟨hc,ini,last,e1,e2,e3,cell_kept e4 hg hr,cell_kept e5 hg hr⟩) _) (ownFrom_below (Nat.le_refl _) (by simp;omega)))
  ⟨⟨by simp,by rw [b1'.cell];rfl,⟨by rw [b2'.cell];rfl,b2'.free 0⟩,by rw [b3'.cell];rfl,b3'.free 0⟩,hB0⟩
  (fun x=> { tmps:= #[.slice A len cap, .int .i64 a,undef, .pointer (some ⟨w.heap.size,0,none⟩), .pointer (some ⟨w.heap.size+1,0,none⟩), .pointer (some ⟨w.heap.size+1+1,0,none⟩),undef,cx x.2,undef,undef,undef, .slice A len cap, .func (.func 203) #[] #[.pointer (some ⟨w.heap.size+1+1+1,0,none⟩)], .int .i64 (x.1:Int),cx x.2,undef,undef,undef,undef,undef,undef,undef,undef,undef,undef,undef,undef,undef],defers:= [] }) ?assign ?body ?done ?stop
 case assign=>
  intro l x W K hK
  gi_wp2
  exact hK
 case body=>
  rintro l pre ⟨i,⟨⟨xa,xw⟩,hxa,hxw⟩⟩ W ⟨⟨hp,hca,⟨hc1,hf1⟩,hc2,hf2⟩,hB⟩ _
  have HP:=Lib.hid hp;clear hp
  simp only [cx] at *
  by_cases hx:xa=a
  ·have e1:((xa:Int) == (a:Int))=true:=by rw [beq_iff_eq];omega
   have HX:=Lib.hid hx;clear hx
   gi_wp2
   refine ⟨trivial, ?_⟩
   refine (CallsIn.inRound l (callsIn_wide.2 (parts_two xa xw hxa hxw _))).mono ?_
   rintro e w' ⟨rfl,rfl⟩
   gi_wp2
   have d1:(W.setCell ⟨w.heap.size+1,0,none⟩ (.int .i64 xw)).cell? ⟨w.heap.size+1,0,none⟩=some (.int .i64 xw):=World.cell?_setCell_same' _ _ _ (by rw [hc1];rfl)
   have d2:(W.setCell ⟨w.heap.size+1,0,none⟩ (.int .i64 xw)).cell? ⟨w.heap.size+1+1,0,none⟩=some (.bool false):=(World.cell?_setCell_other _ _ _ _ (by simp)).trans hc2
   exact ⟨((KeepsOthers.setCell _ _ _).trans (KeepsOthers.setCell _ _ _)).from _,⟨rfl,pre,_,rfl,HP.out,HX.out,(World.cell?_setCell_other _ _ _ _ (by simp)).trans d1,World.cell?_setCell_same' _ _ _ (by rw [d2];rfl)⟩,
    (hB.setCell (p:=⟨w.heap.size+1,0,none⟩) (by simp) _).setCell (p:=⟨w.heap.size+1+1,0,none⟩) (by simp;omega) _⟩
  ·have e1:((xa:Int) == (a:Int))=false:=by rw [beq_eq_false_iff_ne];omega
   have HX:=Lib.hid hx;clear hx
   gi_wp2
   refine ⟨trivial, ?_⟩
   refine (CallsIn.inRound l (callsIn_wide.2 (parts_two xa xw hxa hxw _))).mono ?_
   rintro e w' ⟨rfl,rfl⟩
   gi_wp2
   exact ⟨KeepsFrom.refl _ _,Below.refl _ _,⟨fun p hp'=>(List.mem_append.1 hp').elim (HP.out p) (fun e=>by rw [List.mem_singleton.1 e];exact HX.out),hca,⟨hc1,hf1⟩,hc2,hf2⟩,hB⟩
 case done=>
  rintro D ys W hD rfl ⟨⟨hne,hca,⟨hc1,hf1⟩,hc2,hf2⟩,hB⟩ hK
  have hN:lastAt zs a=none:=last_none zs a hne
  have HN:=Lib.hid hN;clear hN hne
  gi_wp2
  have hK':=((KeepsOthers.setCell W ⟨w.heap.size+1,0,none⟩ (.int .i64 0)).trans (KeepsOthers.setCell _ ⟨w.heap.size+1+1,0,none⟩ (.bool false))).same D _ hK rfl
  refine ⟨by simp, .inl ⟨_,_,rfl,run_takeDeferred hK', ?_⟩⟩
  have d1:(W.setCell ⟨w.heap.size+1,0,none⟩ (.int .i64 0)).cell? ⟨w.heap.size+1,0,none⟩=some (.int .i64 0):=World.cell?_setCell_same' _ _ _ (by rw [hc1];rfl)
  have d2:(W.setCell ⟨w.heap.size+1,0,none⟩ (.int .i64 0)).cell? ⟨w.heap.size+1+1,0,none⟩=some (.bool false):=(World.cell?_setCell_other _ _ _ _ (by simp)).trans hc2
  have d1':=(World.cell?_setCell_other (W.setCell ⟨w.heap.size+1,0,none⟩ (.int .i64 0)) ⟨w.heap.size+1+1,0,none⟩ ⟨w.heap.size+1,0,none⟩ (.bool false) (by simp)).trans d1
  have d2':=World.cell?_setCell_same' (W.setCell ⟨w.heap.size+1,0,none⟩ (.int .i64 0)) ⟨w.heap.size+1+1,0,none⟩ (.bool false) (by rw [d2];rfl)
  have hc5:=cell_kept d1' (grownBy_putObj' _ D (.deferred none)) (fun r e=>by cases e;exact ⟨_,hK',rfl⟩)
  have hc6:=cell_kept d2' (grownBy_putObj' _ D (.deferred none)) (fun r e=>by cases e;exact ⟨_,hK',rfl⟩)
  have hBB:=(hB.setCell (p:=⟨w.heap.size+1,0,none⟩) (by simp) (.int .i64 0)).setCell (p:=⟨w.heap.size+1+1,0,none⟩) (by simp;omega) (.bool false)
  have hfin:=hBB.trans (belowK_b (w:=w) (Nat.le_refl _) _ D _ (.deferred none) (by simp at hD;omega) hK' rfl rfl)
  refine ⟨.tuple #[.int .i64 0, .bool false], ?_,by rw [HN.out];rfl,hfin⟩
  simp [results,Tryz.f198,go_sem,hc5,hc6]
 case stop=>
  rintro D c pre W hD ⟨k,hk,rfl⟩ ⟨⟨rfl,ini,last,e1,e2,e3,hcr,hcb⟩,hB⟩ hK
  have hN:lastAt zs a=some last.2.1.2:=last_some zs a k hk ini last e1 e2 e3
  have HN:=Lib.hid hN;clear hN e1 e2 e3
  gi_wp2
  refine ⟨by simp, .inl ⟨_,_,rfl,run_takeDeferred hK, ?_⟩⟩
  have hc5:=cell_kept hcr (grownBy_putObj' _ D (.deferred none)) (fun r e=>by cases e;exact ⟨_,hK,rfl⟩)
  have hc6:=cell_kept hcb (grownBy_putObj' _ D (.deferred none)) (fun r e=>by cases e;exact ⟨_,hK,rfl⟩)
  have hfin:=hB.trans (belowK_b (w:=w) (Nat.le_refl _) _ D _ (.deferred none) (by simp at hD;omega) hK rfl rfl)
  refine ⟨.tuple #[.int .i64 last.2.1.2, .bool true], ?_,by rw [HN.out];rfl,hfin⟩
  simp [results,Tryz.f198,go_sem,hc5,hc6]
theorem find_any (A:Option Addr) (len cap a:Nat) (zs:List W16) (hreach:zs.length≤100) (w:World) (hI:Stores w.heap.size w (.slice A len cap) zs):
  Calls Tryz.prog 198 #[.slice A len cap, .int .i64 a] w fun e W'=>e= .returned (findR (lastAt zs a))∧Below w.heap.size w W':=callsIn_wide.1 (find_in A len cap a zs hreach w hI)
end
def lastOf (l:List (Nat × Nat)) (a:Nat):Option Nat:=(l.reverse.find? fun x=>x.1 == a).map fun x=>x.2
theorem lastOf_of (zs:List W16) (a:Nat):lastAt zs a=lastOf (zs.map (·.1)) a:=by
 unfold lastAt lastOf
 rw [←List.map_reverse,List.find?_map,Option.map_map]
 rfl
theorem w16_of (l:List (Nat × Nat)) (h:wordy l):∃zs:List W16,zs.map (·.1)=l:=by
 induction l with
 | nil=>exact ⟨[],rfl⟩
 | cons x l ih=>
  obtain ⟨zs,hz⟩:=ih (fun y hy=>h y (List.mem_cons_of_mem _ hy))
  exact ⟨⟨x,h x (by simp)⟩ :: zs,by simp [hz]⟩
theorem sfind_any (b most:Nat) (v:Value) (l:List (Nat × Nat)) (a:Nat) (w:World) (h:BufAt w b v most l):
  Calls Tryz.prog 193 #[.pointer (some ⟨b,0,none⟩), .int .i64 a] w fun e w'=>e= .returned (findR (lastOf l a))∧Below w.heap.size w w':=by
 obtain ⟨zs,hz⟩:=w16_of l h.wrd
 have hlen:=h.len
 have hm:=h.most2
 have hzl:zs.length=l.length:=by rw [←hz,List.length_map]
 have hS:∃A c,v= .slice A l.length c∧Stores w.heap.size w (.slice A l.length c) zs:=by
  rcases Nat.eq_zero_or_pos l.length with h0|h0
  ·have hl:l= []:=List.eq_nil_of_length_eq_zero h0
   rcases h.row.2 with ⟨hv,_⟩|⟨g,off,cap,cur,hv,hg,_⟩
   ·exact ⟨none,0,by rw [hv,h0], .inl ⟨by rw [h0],List.eq_nil_of_length_eq_zero (by omega)⟩⟩
   ·exact ⟨_,_,hv, .inr ⟨g,off,cap,by rw [hzl],hg.lt,fun j hj=>by omega⟩⟩
  ·obtain ⟨g,off,c,hv,hc,hcm,hcell⟩:=h.row.cells h0
   refine ⟨_,_,hv, .inr ⟨g,off,c,by rw [hzl], ?_,fun j hj=> ?_⟩⟩
   ·exact h.row.lt g (by rw [hv];rfl)
   ·have:=(hcell j (by omega)).1
    rw [this, ←hz,List.map_map,List.getElem?_map]
    have hj':j<zs.length:=hj
    simp [hj']
    rfl
 obtain ⟨A,c,rfl,hS⟩:=hS
 have h1:=h.blk.cell 1
 simp at h1
 rw [←hz, ←lastOf_of]
 have HL:=Lib.hid (show lastAt zs a=lastAt zs a from rfl)
 generalize hr:findR (lastAt zs a)=r
 have hr2:(∃x y,r= .tuple #[.int .i64 x, .bool y]):=by
  rw [←hr]
  cases lastAt zs a with
  | none=>exact ⟨_,_,rfl⟩
  | some x=>exact ⟨_,_,rfl⟩
 obtain ⟨x,y,rfl⟩:=hr2
 have HR:=Lib.hid hr;clear hr
 have HS:=Lib.hid hS;clear hS
 have hz100:zs.length≤100:=by omega
 clear h hz hlen hzl
 go_enter Tryz.func193,Tryz.ntmps193
 go_wp2_with fail
 refine (find_any A l.length c a zs hz100 _ HS.out).mono ?_
 rintro e w' ⟨rfl,hb⟩
 rw [HR.out]
 go_wp2_with fail
 go_ret2
 exact ⟨rfl,hb⟩
def seen (m:Nat→Nat) (l:List (Nat × Nat)) (a:Nat):Nat:=(lastOf l a).getD (m a)
set_option maxRecDepth 100000 in
theorem load1_any (L:BusL) (n W most:Nat) (vs:Nat→Value) (m:Nat→Nat) (q:Nat→List (Nat × Nat)) (c:Nat) (hc:c<n) (b1 b2 b3 a:Nat) (ha:a<W) (w0 w:World) (h:BusAt w L n W most vs m q) (hb:Below w0.heap.size w0 w)
  (h1:Blk w b1 92 [.pointer (some ⟨L.bus,0,none⟩)]) (h2:Blk w b2 3 [.int .i64 a]) (h3:Blk w b3 3 [.int .i64 0]) (h30:w0.heap.size≤b3) (h31:b2<b3):
  Calls Tryz.prog 192 #[.pointer (some ⟨L.buf c,0,none⟩), .pointer (some ⟨b1,0,none⟩), .pointer (some ⟨b2,0,none⟩), .pointer (some ⟨b3,0,none⟩)] w fun e w'=>∃r,e= .returned (.int .i64 r)∧r=0∧
   Below w0.heap.size w0 w'∧Blk w' b3 3 [.int .i64 (seen m (q c) a)]:=by
 have c1:=h1.cell 0
 have c2:=h2.cell 0
 have c3:=h3.cell 0
 simp at c1 c2 c3
 have f3:=h3.free 0
 have c0:=h.bus.cell 0
 simp at c0
 have hlt:=h3.lt
 have hBF:=h.buf c hc
 have HB:=Lib.hid h;clear h
 go_enter Tryz.func192,Tryz.ntmps192
 go_wp2_with fail
 have n1:b1≠b3:=h1.ne h3 (by decide)
 have n2:b2≠b3:=by omega
 have n0:L.bus≠b3:=HB.out.bus.ne h3 (by decide)
 have HR:=Lib.hid HB.out.ram
 go_region_held3 (fun u=>u.cell? ⟨b1,0,none⟩=some (.pointer (some ⟨L.bus,0,none⟩))∧u.cell? ⟨b2,0,none⟩=some (.int .i64 a)∧u.cell? ⟨L.bus,0,none⟩=some (.pointer (some ⟨L.ram,0,none⟩)))
  (first|exact ⟨c1,c2,c0⟩|exact ⟨(World.cell?_setCell_other _ _ _ _ (by simp [Ne.symm n1,n1])).trans c1,(World.cell?_setCell_other _ _ _ _ (by simp [Ne.symm n2,n2])).trans c2,(World.cell?_setCell_other _ _ _ _ (by simp [Ne.symm n0,n0])).trans c0⟩)
  (first|(go_at_call 128;refine (rload_any L.ram L.row W m a ha _ (HR.out.keep ((Keep.refl (fun _=>False) w).drew) (fun q=>q) (fun q=>q))).mono ?_;rintro e w' ⟨rfl,rfl⟩))
 have hk:Keep (fun k=>k=b3) w (w.setCell ⟨b3,0,none⟩ (.int .i64 (m a))).drew:=(Keep.setCell (F:=fun k=>k=b3) (p:=⟨b3,0,none⟩) (Keep.refl _ _) (fun _=>rfl) _).drew
 have hBW:=hBF.keep hk (hBF.blk.ne h3 (by decide)) (fun k hk' e=>hBF.row.ne h3 (by decide) (by rw [hk',e]))
 have d2:=(h2.keep hk n2).cell 0
 have h3':Blk (w.setCell ⟨b3,0,none⟩ (.int .i64 (m a))).drew b3 3 [.int .i64 (m a)]:=h3.set 0 (.int .i64 (m a))
 have hb':=(hb.setCell (p:=⟨b3,0,none⟩) h30 (.int .i64 (m a))).drew
 simp at d2
 generalize (w.setCell ⟨b3,0,none⟩ (.int .i64 (m a))).drew=W3 at *
 have d3:=h3'.cell 0
 have g3:=h3'.free 0
 simp at d3
 clear c1 c2 c3 f3 c0 hBF HB HR h1 h2 h3 hk hb n0 n1 n2
 have HBW:=Lib.hid hBW;clear hBW
 have HS:=Lib.hid (show seen m (q c) a=(lastOf (q c) a).getD (m a) from rfl)
 generalize hr:lastOf (q c) a=r at *
 have HRR:=Lib.hid hr;clear hr
 cases r with
 | none=>
  go_wp2_with fail
  refine (sfind_any _ most _ (q c) a _ HBW.out).mono ?_
  rintro e w1 ⟨rfl,hB1⟩
  rw [HRR.out]
  have h4:=Blk.keep h3' (Keep.ofFresh hB1 (B:=0) (F:=fun _=>False)) (fun q=>q)
  unfold findR
  go_wp2_with fail
  go_ret
  refine ⟨0,rfl,rfl,hb'.trans (hB1.mono hb'.size), ?_⟩
  rw [HS.out];exact h4
 | some x=>
  go_wp2_with fail
  refine (sfind_any _ most _ (q c) a _ HBW.out).mono ?_
  rintro e w1 ⟨rfl,hB1⟩
  rw [HRR.out]
  have h4:=Blk.keep h3' (Keep.ofFresh hB1 (B:=0) (F:=fun _=>False)) (fun q=>q)
  have d4:=h4.cell 0
  have g4:=h4.free 0
  simp at d4
  unfold findR
  go_wp2_with fail
  go_ret
  refine ⟨0,rfl,rfl,(hb'.trans (hB1.mono hb'.size)).setCell (p:=⟨b3,0,none⟩) h30 _, ?_⟩
  rw [HS.out];exact h4.set 0 _
set_option maxRecDepth 100000 in
theorem busLoad_any (L:BusL) (n W most:Nat) (vs:Nat→Value) (m:Nat→Nat) (q:Nat→List (Nat × Nat)) (c:Nat) (hc:c<n) (a:Nat) (ha:a<W) (w:World) (h:BusAt w L n W most vs m q):
  Calls Tryz.prog 190 #[.pointer (some ⟨L.bus,0,none⟩), .int .i64 c, .int .i64 a] w fun e w'=>e= .returned (.tuple #[.int .i64 (seen m (q c) a), .int .i64 0])∧Below w.heap.size w w':=by
 obtain ⟨hb,h1,h2,h3⟩:=three_boxes w 92 3 3 (.pointer (some ⟨L.bus,0,none⟩)) (.int .i64 a) (.int .i64 0)
 have H:=Lib.hid (h.fresh hb);clear h
 have HB:=Lib.hid (And.intro hb (And.intro h1 (And.intro h2 h3)));clear hb h1 h2 h3
 go_enter Tryz.func190,Tryz.ntmps190
 go_wp2_with fail
 refine (ask_any L n W most vs m q c hc 192 #[.pointer (some ⟨w.heap.size,0,none⟩), .pointer (some ⟨w.heap.size+1,0,none⟩), .pointer (some ⟨w.heap.size+2,0,none⟩)] _ _ H.out (enters Tryz.func192 (by kernel_rfl) rfl)
  (load1_any L n W most vs m q c hc _ _ _ a ha w _ H.out HB.out.1 HB.out.2.1 HB.out.2.2.1 HB.out.2.2.2 (by omega) (by omega))).mono ?_
 rintro e w1 ⟨r,rfl,rfl,hT,h5⟩
 have hf:=h5.free 0
 have hc1:=h5.cell 0
 simp at hc1
 have h7:=h5.set 0 (.int .i64 (seen m (q c) a))
 have HT:=Lib.hid (hT.setCell (p:=⟨w.heap.size+2,0,none⟩) (by simp) (.int .i64 (seen m (q c) a)))
 clear hT
 go_wp2_with fail
 refine bodyPost_ret (res_ct rfl rfl Tryz.underlying3 _ _ (w.heap.size+2) (.int .i64 (seen m (q c) a)) rfl (by rw [h7.cell];rfl)) rfl ?_
 exact ⟨rfl,HT.out⟩
end Go.Proofs.YtaaffebnajjfhaaGreatDoor.T
