/- Texts of this proof, merged: Hd1, Hd2. -/
import Derived.Test.YtaaffebnajjfhaaGreatDoorH30
namespace Go.Proofs.YtaaffebnajjfhaaGreatDoor.T
set_option linter.unusedVariables false
set_option linter.unusedSimpArgs false
set_option linter.unusedSectionVars false
open Go.RowKit
structure Msg where
 kind:Int
 dst:Int
 src:Int
 body:List Int
def Msg.none_:Msg:=⟨0,0,0, []⟩
def isWord (x:Int):Bool:=x == x%65536
def Msg.wrong (m:Msg):Int:=if 5<m.body.length then 18 else if m.kind<0∨2<m.kind∨isWord m.dst=false∨isWord m.src=false∨wordsOk m.body=false then 2 else 0
def Msg.words (m:Msg):List Int:= [m.kind*256+m.body.length,m.dst,m.src]++m.body
theorem oddw_any (x:Int) (w:World):Calls Tryz.prog 70 #[.int .i64 x] w fun e w'=>e= .returned (.bool (!(x == x%65536)))∧w=w':=by
 go_enter Tryz.func70,Tryz.ntmps70
 go_wp2_with fail
 refine (word_any _ _).mono ?_
 rintro e w' ⟨rfl,rfl⟩
 go_wp2_with fail
 go_ret
 exact ⟨rfl,rfl⟩
set_option maxRecDepth 100000 in
theorem oddIdx_any (v:Value) (xs:List Int) (hlen:xs.length≤1000) (w:World) (h:ReadI w v xs):
  Calls Tryz.prog 119 #[v, .func (.func 70) #[] #[]] w fun e w'=>∃r:Int,e= .returned (.int .i64 r)∧decide (0≤r)=(!wordsOk xs)∧w=w':=by
 obtain ⟨A,cc,hv⟩:=h.slice
 subst hv
 have H:=Lib.hid h;clear h
 have hen:Enters 70:=enters Tryz.func70 (by kernel_rfl) rfl
 go_enter Tryz.func119,Tryz.ntmps119
 go_wp2_with fail
 go_loopw [8] (fun j u=>∃k:Nat,k≤xs.length∧j= .int .i64 k∧(∀i,i<k→(xs.getD i 0 == xs.getD i 0%65536)=true)∧u=w)
  (fun j _=>xs.length-(intOf j).toNat)
 case atStart=>exact ⟨0,by omega,rfl,fun i hi=>by omega,rfl⟩
 case round=>
  obtain ⟨k,hk,rfl,hb,rfl⟩:=hrel
  have HBB:=Lib.hid hb;clear hb
  by_cases hkl:k<xs.length
  ·obtain ⟨g,off,c,he,hc,hcell⟩:=H.out.at_ k hkl
   injection he with he1 he2 he3
   subst he1 he3
   have hk0:(0:Int)≤(k:Int):=by omega
   have hk1:(k:Int)<(xs.length:Int):=by omega
   generalize hy:xs.getD k 0=y at *
   have HY:=Lib.hid hy;clear hy
   go_wp2_with fail
   refine (oddw_any y _).mono ?_
   rintro e w' ⟨rfl,rfl⟩
   by_cases hy:(y == y%65536)=true
   ·rw [hy]
    have HYY:=Lib.hid hy;clear hy
    go_wp2_with fail
    go_roundw
    case rel=>
     have hnext:∀i,i<k+1→(xs.getD i 0 == xs.getD i 0%65536)=true:=by
      intro i hi
      by_cases e:i=k
      ·rw [e,HY.out];exact HYY.out
      ·exact HBB.out i (by omega)
     first|exact ⟨k+1,by omega,by go_num,hnext,by first|trivial|rfl⟩|exact ⟨_,_,_,_,_,_,_,_,_,_,_,_,_,⟨k+1,by omega,by go_num,hnext,by first|trivial|rfl⟩,rfl⟩
    case measure=>simp [intOf];omega
   ·have hy:(y == y%65536)=false:=by simpa using hy
    have hw:=wordsOk_no hkl (by rw [HY.out];exact hy)
    rw [hy]
    have HW:=Lib.hid hw;clear hw hy
    go_wp2_with fail
    go_ret
    exact ⟨k,rfl,by rw [HW.out];simp,rfl⟩
  ·have hkn:k=xs.length:=by omega
   have hw:=wordsOk_yes (xs:=xs) (fun i hi=>HBB.out i (by omega))
   have HW:=Lib.hid hw;clear hw
   subst hkn
   go_wp2_with fail
   go_ret
   exact ⟨-1,rfl,by rw [HW.out];rfl,rfl⟩
set_option maxRecDepth 100000 in
theorem oddAny_any (v:Value) (xs:List Int) (hlen:xs.length≤1000) (w:World) (h:ReadI w v xs):
  Calls Tryz.prog 71 #[v, .func (.func 70) #[] #[]] w fun e w'=>e= .returned (.bool (!wordsOk xs))∧w=w':=by
 have hC:=oddIdx_any v xs hlen w h
 generalize wordsOk xs=y at *
 have HC:=Lib.hid hC;clear hC h
 go_enter Tryz.func71,Tryz.ntmps71
 go_wp2_with fail
 refine HC.out.mono ?_
 rintro e w' ⟨r,rfl,hr,rfl⟩
 have HR:=Lib.hid hr;clear hr
 go_wp2_with fail
 go_ret
 exact ⟨by show Ending.returned (Value.bool (decide (0≤r)))=_;rw [HR.out],rfl⟩
theorem msg_box (k d s:Int) (bv:Value) (w:World):∃w1,w1=w.alloc (.cells #[.int .i64 k, .int .i64 d, .int .i64 s,bv] 43)∧Below w.heap.size w w1∧Blk w1 w.heap.size 43 [.int .i64 k, .int .i64 d, .int .i64 s,bv]:=
 ⟨_,rfl,(Below.refl _ _).alloc (Nat.le_refl _) _,Blk.new _ _ _⟩
set_option maxHeartbeats 2000000 in
set_option maxRecDepth 100000 in
theorem wrong_any (m:Msg) (bv:Value) (w:World) (hl:m.body.length≤1000) (h:ReadI w bv m.body):
  Calls Tryz.prog 32 #[.agg #[.int .i64 m.kind, .int .i64 m.dst, .int .i64 m.src,bv]] w fun e w'=>e= .returned (.int .i64 m.wrong)∧Below w.heap.size w w':=by
 obtain ⟨k,d,s,body⟩:=m
 simp only at h hl ⊢
 obtain ⟨A,c,hv⟩:=h.slice
 subst hv
 obtain ⟨w1,hw1,hb,hk⟩:=msg_box k d s (.slice A body.length c) w
 have y0:=hk.cell 0
 have y1:=hk.cell 1
 have y2:=hk.cell 2
 have y3:=hk.cell 3
 simp only [List.getElem?_cons_zero,List.getElem?_cons_succ] at y0 y1 y2 y3
 have hen:Enters 70:=enters Tryz.func70 (by kernel_rfl) rfl
 have hO:=oddAny_any _ body hl w1 (h.fresh hb)
 have HW:=Lib.hid hw1
 have HB:=Lib.hid hb
 unfold Msg.wrong
 simp only
 by_cases h5:5<body.length
 ·rw [if_pos h5]
  have h5':(5:Int)<(body.length:Int):=by omega
  clear h5 hw1 hb hk hO h hl
  go_enter Tryz.func32,Tryz.ntmps32
  go_upto_region 1 with fail
  rw [←HW.out]
  go_wp2_with fail
  go_ret
  exact ⟨rfl,HB.out⟩
 ·rw [if_neg h5]
  have h5': ¬(5:Int)<(body.length:Int):=by omega
  have HO:=Lib.hid hO
  clear h5 hw1 hb hk hO h hl
  by_cases hk0:k<0
  ·rw [if_pos (.inl hk0)]
   go_enter Tryz.func32,Tryz.ntmps32
   go_upto_region 1 with fail
   rw [←HW.out]
   go_wp2_with fail
   go_ret
   exact ⟨rfl,HB.out⟩
  by_cases hk2:2<k
  ·rw [if_pos (.inr (.inl hk2))]
   go_enter Tryz.func32,Tryz.ntmps32
   go_upto_region 1 with fail
   rw [←HW.out]
   go_wp2_with fail
   go_ret
   exact ⟨rfl,HB.out⟩
  cases hd:isWord d with
  | false=>
   rw [if_pos (.inr (.inr (.inl rfl)))]
   have hd:(d == d%65536)=false:=hd
   have HD:=Lib.hid hd
   clear hd
   go_enter Tryz.func32,Tryz.ntmps32
   go_upto_region 1 with fail
   rw [←HW.out]
   go_wp2_with fail
   refine (oddw_any d _).mono ?_
   rintro e w' ⟨rfl,rfl⟩
   rw [HD.out]
   go_wp2_with fail
   go_ret
   exact ⟨rfl,HB.out⟩
  | true=>
   cases hs:isWord s with
   | false=>
    rw [if_pos (.inr (.inr (.inr (.inl rfl))))]
    have hd:(d == d%65536)=true:=hd
    have hs:(s == s%65536)=false:=hs
    have HD:=Lib.hid (And.intro hd hs)
    clear hd hs
    go_enter Tryz.func32,Tryz.ntmps32
    go_upto_region 1 with fail
    rw [←HW.out]
    go_wp2_with fail
    refine (oddw_any d _).mono ?_
    rintro e w' ⟨rfl,rfl⟩
    rw [HD.out.1]
    go_wp2_with fail
    refine (oddw_any s _).mono ?_
    rintro e w' ⟨rfl,rfl⟩
    rw [HD.out.2]
    go_wp2_with fail
    go_ret
    exact ⟨rfl,HB.out⟩
   | true=>
    have hd:(d == d%65536)=true:=hd
    have hs:(s == s%65536)=true:=hs
    have e:(if k<0∨2<k∨True=False∨True=False∨wordsOk body=false then (2:Int) else 0)=if wordsOk body=false then 2 else 0:=by
     by_cases q:wordsOk body=false
     ·rw [if_pos q,if_pos (.inr (.inr (.inr (.inr q))))]
     ·rw [if_neg q,if_neg]
      rintro (r|r|r|r|r)
      ·exact hk0 r
      ·exact hk2 r
      ·simp at r
      ·simp at r
      ·exact q r
    have e2:(if k<0∨2<k∨true=false∨true=false∨wordsOk body=false then (2:Int) else 0)=if wordsOk body=false then 2 else 0:=by
     by_cases q:wordsOk body=false
     ·rw [if_pos q,if_pos (.inr (.inr (.inr (.inr q))))]
     ·rw [if_neg q,if_neg]
      rintro (r|r|r|r|r)
      ·exact hk0 r
      ·exact hk2 r
      ·simp at r
      ·simp at r
      ·exact q r
    rw [e2]
    have HD:=Lib.hid (And.intro hd hs)
    clear hd hs e e2
    cases hw:wordsOk body with
    | false=>
     rw [if_pos rfl]
     rw [hw] at HO
     go_enter Tryz.func32,Tryz.ntmps32
     go_upto_region 1 with fail
     rw [←HW.out]
     go_wp2_with fail
     refine (oddw_any d _).mono ?_
     rintro e w' ⟨rfl,rfl⟩
     rw [HD.out.1]
     go_wp2_with fail
     refine (oddw_any s _).mono ?_
     rintro e w' ⟨rfl,rfl⟩
     rw [HD.out.2]
     go_wp2_with fail
     refine HO.out.mono ?_
     rintro e w' ⟨rfl,rfl⟩
     go_wp2_with fail
     go_ret
     exact ⟨rfl,HB.out⟩
    | true=>
     rw [if_neg (by simp)]
     rw [hw] at HO
     go_enter Tryz.func32,Tryz.ntmps32
     go_upto_region 1 with fail
     rw [←HW.out]
     go_wp2_with fail
     refine (oddw_any d _).mono ?_
     rintro e w' ⟨rfl,rfl⟩
     rw [HD.out.1]
     go_wp2_with fail
     refine (oddw_any s _).mono ?_
     rintro e w' ⟨rfl,rfl⟩
     rw [HD.out.2]
     go_wp2_with fail
     refine HO.out.mono ?_
     rintro e w' ⟨rfl,rfl⟩
     go_wp2_with fail
     go_ret
     exact ⟨rfl,HB.out⟩
set_option maxRecDepth 100000 in
theorem mRight_any (m:Msg) (bv:Value) (w:World) (hl:m.body.length≤1000) (h:ReadI w bv m.body):
  Calls Tryz.prog 15 #[.agg #[.int .i64 m.kind, .int .i64 m.dst, .int .i64 m.src,bv]] w fun e w'=>e= .returned (.bool (decide (m.wrong=0)))∧Below w.heap.size w w':=by
 obtain ⟨A,c,hv⟩:=h.slice
 subst hv
 obtain ⟨w1,hw1,hb,hk⟩:=msg_box m.kind m.dst m.src (.slice A m.body.length c) w
 have y0:=hk.cell 0
 have y1:=hk.cell 1
 have y2:=hk.cell 2
 have y3:=hk.cell 3
 simp only [List.getElem?_cons_zero,List.getElem?_cons_succ] at y0 y1 y2 y3
 have hO:=wrong_any m _ w1 hl (h.fresh hb)
 have HW:=Lib.hid hw1
 have HB:=Lib.hid hb
 have HO:=Lib.hid hO
 clear hw1 hb hk hO h hl
 go_enter Tryz.func15,Tryz.ntmps15
 go_upto_region 1 with fail
 rw [←HW.out]
 go_wp2_with fail
 refine HO.out.mono ?_
 rintro e w2 ⟨rfl,hb2⟩
 have hb2:=HB.out.trans (hb2.mono HB.out.size)
 have HB2:=Lib.hid hb2
 clear hb2
 have e0:(m.wrong == 0)=decide (m.wrong=0):=by
  rw [Bool.eq_iff_iff,beq_iff_eq,decide_eq_true_eq]
 cases hz:decide (m.wrong=0)<;>rw [hz] at e0<;>(
  have HZ:=Lib.hid hz
  clear hz
  go_wp2_with fail
  go_ret
  refine ⟨?_,HB2.out⟩
  rw [HZ.out]
  rfl)
theorem cell_al {u:World} {ob:Obj} {p:Addr} {v:Value} (h:u.cell? p=some v):(u.alloc ob).cell? p=some v:=
 (((Below.refl u.heap.size u).alloc (Nat.le_refl _) ob).cell (World.block_lt_of_cell? u p h)).trans h
theorem or_len (k:Int) (n:Nat) (h0:0≤k) (h2:k≤2) (hn:n≤5):bits BinOp.or IntKind.i64 (wrap64 (k*256)) (n:Int)=k*256+n:=by
 have hk:k=0∨k=1∨k=2:=by omega
 have hn':n=0∨n=1∨n=2∨n=3∨n=4∨n=5:=by omega
 rcases hk with rfl|rfl|rfl<;>rcases hn' with h|h|h|h|h|h<;>rw [h]<;>decide +kernel
theorem right_m {m:Msg} (h:m.wrong=0):m.body.length≤5∧0≤m.kind∧m.kind≤2∧isWord m.dst=true∧isWord m.src=true∧wordsOk m.body=true:=by
 unfold Msg.wrong at h
 split at h
 ·cases h
 ·split at h
  ·cases h
  ·rename_i h1 h2
   refine ⟨by omega, ?_, ?_, ?_, ?_, ?_⟩
   ·exact Decidable.byContradiction fun q=>h2 (.inl (by omega))
   ·exact Decidable.byContradiction fun q=>h2 (.inr (.inl (by omega)))
   ·cases q:isWord m.dst with
    | true=>rfl
    | false=>exact absurd (.inr (.inr (.inl q))) h2
   ·cases q:isWord m.src with
    | true=>rfl
    | false=>exact absurd (.inr (.inr (.inr (.inl q)))) h2
   ·cases q:wordsOk m.body with
    | true=>rfl
    | false=>exact absurd (.inr (.inr (.inr (.inr q)))) h2
theorem words_push (W:World) (x d s:Int) (body:List Int) (A:Option Addr) (c:Nat) (hb:body.length≤5) (h:ReadI W (.slice A body.length c) body):
  ∃A7 q7 w7,(Builtin.append_ #[31,31] 31 #[.slice (some ⟨W.heap.size,0,none⟩) 3 3, .slice A body.length c]).run Tryz.prog (W.alloc (.cells #[.int .i64 x, .int .i64 d, .int .i64 s] 3))= .ok (.slice A7 (3+body.length) q7) w7∧
   RowI w7 (.slice A7 (3+body.length) q7) ([x,d,s]++body)∧Below W.heap.size W w7∧∀k,(Value.slice A7 (3+body.length) q7).ownBlock=some k→W.heap.size≤k:=by
 obtain ⟨i0,hi,hzz⟩:=Option.map_eq_some_iff.1 info3
 simp only [Prod.mk.injEq] at hzz
 obtain ⟨hz0,hz1,hz2⟩:=hzz
 have hbl:Below W.heap.size W (W.alloc (.cells #[.int .i64 x, .int .i64 d, .int .i64 s] 3)):=(Below.refl _ _).alloc (Nat.le_refl _) _
 have hk:=Blk.new W 3 [.int .i64 x, .int .i64 d, .int .i64 s]
 have hr:Row (W.alloc (.cells #[.int .i64 x, .int .i64 d, .int .i64 s] 3)) 3 1 (.slice (some ⟨W.heap.size,0,none⟩) 3 3) 3 [.int .i64 x, .int .i64 d, .int .i64 s]:=Row.whole hk rfl (by unfold maxLen;omega)
 have h1:=h.fresh hbl
 have key:∀a m,A=some a→body.length=m→(∀j u,(ints body)[j]? = some u→(W.alloc (.cells #[.int .i64 x, .int .i64 d, .int .i64 s] 3)).cell? (a.add j)=some u)→∃A7 q7 w7,(Builtin.append_ #[31,31] 31 #[.slice (some ⟨W.heap.size,0,none⟩) 3 3, .slice A body.length c]).run Tryz.prog (W.alloc (.cells #[.int .i64 x, .int .i64 d, .int .i64 s] 3))= .ok (.slice A7 (3+body.length) q7) w7∧
   RowI w7 (.slice A7 (3+body.length) q7) ([x,d,s]++body)∧Below W.heap.size W w7∧∀k,(Value.slice A7 (3+body.length) q7).ownBlock=some k→W.heap.size≤k:=by
  intro a m ha hm hc
  subst ha
  obtain ⟨v7,w7,r1,r2,r3,r4⟩:=Row.append (P:=Tryz.prog) (W.alloc (.cells #[.int .i64 x, .int .i64 d, .int .i64 s] 3)) 31 31 3 i0 _ 1 8 under31 hi hz0 hz1 hz2 rfl (by decide) _ 3 _ hr a body.length c (ints body) (by simp [ints]) hc (by intro u hu;obtain ⟨y, -,rfl⟩:=List.mem_map.1 hu;rfl) (by unfold maxLen;omega) (by omega)
  obtain ⟨A7,q7,hv, -, -⟩:=Row.slice r2
  subst hv
  refine ⟨A7,q7,w7,r1, ?_, ?_,fun k q=> ?_⟩
  ·have e:ints ([x,d,s]++body)= [.int .i64 x, .int .i64 d, .int .i64 s]++ints body:=by simp [ints]
   unfold RowI
   rw [e,List.length_append]
   exact r2
  ·exact hbl.grown r3 (Nat.le_of_lt hk.lt) (fun k q=>by
    have q:W.heap.size=k:=by simpa [Value.ownBlock] using q
    omega)
  ·rcases r4 with e|⟨b,e,hb2⟩
   ·rw [e] at q
    have q:W.heap.size=k:=by simpa [Value.ownBlock] using q
    omega
   ·rw [e] at q
    injection q with q
    have:=hbl.size
    omega
 rcases h1 with ⟨rfl,A',c',he⟩|⟨g,off,c',he,hg,hc,hcell⟩
 ·cases A with
  | none=>
   have r1:=Row.append_none (P:=Tryz.prog) (W.alloc (.cells #[.int .i64 x, .int .i64 d, .int .i64 s] 3)) 31 31 3 i0 under31 hi _ 3 _ hr c
   refine ⟨_,_,_,r1, ?_,hbl,fun k q=> ?_⟩
   ·unfold RowI
    rw [List.append_nil]
    exact hr
   ·have q:W.heap.size=k:=by simpa [Value.ownBlock] using q
    omega
  | some a=>exact key a 0 rfl rfl (fun j u hu=>by simp [ints] at hu)
 ·injection he with h1 h2 h3
  subst h1
  refine key _ _ rfl rfl (fun j u hu=> ?_)
  have hj:j<body.length:=by
   have:=(List.getElem?_eq_some_iff.1 hu).1
   simpa [ints] using this
  rw [add_lit,hcell j hj, ←hu,ints_get _ _ hj]
set_option maxHeartbeats 1000000 in
set_option maxRecDepth 100000 in
theorem mWrite_no (m:Msg) (bv:Value) (w:World) (hl:m.body.length≤1000) (h:ReadI w bv m.body) (hw:m.wrong≠0):
  Calls Tryz.prog 11 #[.agg #[.int .i64 m.kind, .int .i64 m.dst, .int .i64 m.src,bv]] w fun e w'=>e= .returned (.tuple #[.slice none 0 0, .int .i64 m.wrong])∧Below w.heap.size w w':=by
 obtain ⟨A,c,hv⟩:=h.slice
 subst hv
 obtain ⟨w1,hw1,hb,hk⟩:=msg_box m.kind m.dst m.src (.slice A m.body.length c) w
 have y0:=hk.cell 0
 have y1:=hk.cell 1
 have y2:=hk.cell 2
 have y3:=hk.cell 3
 simp only [List.getElem?_cons_zero,List.getElem?_cons_succ] at y0 y1 y2 y3
 have hO:=wrong_any m _ w1 hl (h.fresh hb)
 have e0:(m.wrong != 0)=true:=by rw [bne_iff_ne];exact hw
 have HW:=Lib.hid hw1
 have HB:=Lib.hid hb
 have HO:=Lib.hid hO
 clear hw1 hb hk hO h hl hw
 go_enter Tryz.func11,Tryz.ntmps11
 go_upto_region 1 with fail
 rw [←HW.out]
 go_wp2_with fail
 refine HO.out.mono ?_
 rintro e w2 ⟨rfl,hb2⟩
 have HB2:=Lib.hid (HB.out.trans (hb2.mono HB.out.size))
 clear hb2
 go_wp2_with fail
 go_ret2
 exact ⟨rfl,HB2.out⟩
set_option maxHeartbeats 1000000 in
set_option maxRecDepth 100000 in
theorem mWrite_any (m:Msg) (bv:Value) (w:World) (hl:m.body.length≤1000) (h:ReadI w bv m.body) (hw:m.wrong=0):
  Calls Tryz.prog 11 #[.agg #[.int .i64 m.kind, .int .i64 m.dst, .int .i64 m.src,bv]] w fun e w'=>∃v,e= .returned (.tuple #[v, .int .i64 0])∧RowI w' v m.words∧(∀k,v.ownBlock=some k→w.heap.size≤k)∧Below w.heap.size w w':=by
 obtain ⟨A,c,hv⟩:=h.slice
 subst hv
 obtain ⟨w1,hw1,hb,hk⟩:=msg_box m.kind m.dst m.src (.slice A m.body.length c) w
 have y0:=hk.cell 0
 have y1:=hk.cell 1
 have y2:=hk.cell 2
 have y3:=hk.cell 3
 simp only [List.getElem?_cons_zero,List.getElem?_cons_succ] at y0 y1 y2 y3
 have hO:=wrong_any m _ w1 hl (h.fresh hb)
 rw [hw] at hO
 have HW:=Lib.hid hw1
 have HB:=Lib.hid hb
 have HO:=Lib.hid hO
 clear hw1 hO
 go_enter Tryz.func11,Tryz.ntmps11
 go_upto_region 1 with fail
 rw [←HW.out]
 go_wp2_with fail
 refine HO.out.mono ?_
 rintro e w2 ⟨rfl,hb2⟩
 have hk2:=hk.keep (Keep.ofFresh hb2 (B:=0) (F:=fun _=>False)) (fun q=>q)
 have z0:=hk2.cell 0
 have z1:=hk2.cell 1
 have z2:=hk2.cell 2
 have z3:=hk2.cell 3
 simp only [List.getElem?_cons_zero,List.getElem?_cons_succ] at z0 z1 z2 z3
 clear y0 y1 y2 y3
 obtain ⟨r5,r0,r2, -, -, -⟩:=right_m hw
 have hor:=or_len m.kind m.body.length r0 r2 r5
 have z3':(w2.alloc (.cells #[.int .i64 (m.kind*256+m.body.length), .int .i64 m.dst, .int .i64 m.src] 3)).cell? ⟨w.heap.size,3,none⟩=some (.slice A m.body.length c):=cell_al z3
 obtain ⟨A7,q7,w7,hr7,hR7,hB7,hO7⟩:=words_push w2 (m.kind*256+m.body.length) m.dst m.src m.body A c r5 ((h.fresh hb).fresh hb2)
 have hs1:=hb.size
 have hs2:=hb2.size
 have HR7:=Lib.hid hr7
 have HF:=Lib.hid (And.intro hR7 (And.intro (fun k q=>Nat.le_trans (Nat.le_trans hs1 hs2) (hO7 k q)) ((hb.trans (hb2.mono hs1)).trans (hB7.mono (Nat.le_trans hs1 hs2)))))
 clear hr7 hR7 hB7 hO7 hb hb2 hk hk2 h hw r0 r2 hl hs1 hs2
 go_wp2_with (at_builtin;refine app_run_list rfl _ _ 31 31 rfl rfl rfl rfl HR7.out ?_)
 go_ret2
 exact ⟨_,rfl,HF.out.1,HF.out.2.1,HF.out.2.2⟩
end Go.Proofs.YtaaffebnajjfhaaGreatDoor.T
