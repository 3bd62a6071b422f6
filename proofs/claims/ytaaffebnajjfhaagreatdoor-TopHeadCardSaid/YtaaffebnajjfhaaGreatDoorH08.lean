/- Texts of this proof, merged: Locks. -/
import Derived.Test.YtaaffebnajjfhaaGreatDoorH01
import Derived.Test.YtaaffebnajjfhaaGreatDoorH02
import Derived.WalkKit
import Derived.WalkSpells
import Derived.Deep.Draws
import Derived.Deep.QuietTactic
import Derived.BigQuiet
import Derived.Deep.RegionHeld3
import Derived.Deep.DrawnRows
import Derived.Deep.DeepCutAuto
import Derived.Lib.Hide
import Derived.Outline
import Derived.KernelRfl
import Derived.Deep.MidRow
import Derived.Laws.Rows
import Derived.Maps.AppendAt
import Derived.OwnWalk
import Derived.ChangeKeysEq
import Derived.Deep.WholeRow
namespace Go.Proofs.YtaaffebnajjfhaaGreatDoor.T.Banks
set_option linter.unusedVariables false
set_option linter.unusedSimpArgs false
open Go.RowKit
theorem _root_.Go.World.grownBy_self (w:World) (row:Option Nat):w.grownBy w row:=⟨rfl,rfl,rfl,Nat.le_refl _,fun _ _ _=>rfl⟩
theorem _root_.Go.World.grownBy_set (w:World) (a:Addr) (v:Value):w.grownBy (w.setCell a v) (some a.block):=
 ⟨rfl,rfl,rfl,by simp [World.setCell],fun k _ hn=>Below.heap_setCell _ _ _ _ (by simpa using hn)⟩
structure Bk where
 cores:Int
 n:Int
 own:List Int
def Bk.cells (k:Bk):List Value:= .int .i64 k.cores :: .int .i64 k.n :: k.own.map (.int .i64)
structure Bk.Ok (k:Bk):Prop where
 c0:1≤k.cores
 c1:k.cores≤8
 n0:1≤k.n
 n1:k.n≤16
 len:k.own.length=16
 rng:∀x∈k.own,0≤x∧x≤8
def At (w:World) (b:Nat) (k:Bk):Prop:=w.heap[b]? = some (.cells k.cells.toArray 152 (0,0))
theorem At.cell {w:World} {b:Nat} {k:Bk} (h:At w b k) (j:Nat):w.cell? ⟨b,j,none⟩=k.cells[j]? := by
 unfold At at h
 simp [World.cell?,h]
theorem At.cores {w:World} {b:Nat} {k:Bk} (h:At w b k):w.cell? ⟨b,0,none⟩=some (.int .i64 k.cores):=by rw [h.cell];rfl
theorem At.n {w:World} {b:Nat} {k:Bk} (h:At w b k):w.cell? ⟨b,1,none⟩=some (.int .i64 k.n):=by rw [h.cell];rfl
theorem At.own {w:World} {b:Nat} {k:Bk} (h:At w b k) (j:Nat) (hj:j<k.own.length):w.cell? ⟨b,2+j,none⟩=some (.int .i64 (k.own.getD j 0)):=by
 rw [h.cell,Nat.add_comm]
 simp [Bk.cells,hj]
theorem At.free {w:World} {b:Nat} {k:Bk} (h:At w b k) (j:Nat):w.frozen? ⟨b,j,none⟩=false:=by
 unfold At at h
 simp [World.frozen?,h]
theorem At.drewN {w:World} {b:Nat} {k:Bk} (h:At w b k) (n:Nat):At (w.drewN n) b k:=h
theorem Bk.Ok.get {k:Bk} (ok:k.Ok) (j:Nat) (hj:j<16):0≤k.own.getD j 0∧k.own.getD j 0≤8:=by
 have hl:=ok.len
 have e:k.own.getD j 0=k.own[j]'(by omega):=by simp [List.getD_eq_getElem?_getD,hl,hj]
 rw [e]
 exact ok.rng _ (List.getElem_mem _)
def Bk.put (k:Bk) (j:Nat) (x:Int):Bk:= { k with own:=k.own.set j x }
theorem Bk.Ok.put {k:Bk} (ok:k.Ok) (j:Nat) (x:Int) (h0:0≤x) (h8:x≤8):(k.put j x).Ok:=
 ⟨ok.c0,ok.c1,ok.n0,ok.n1,by simp [Bk.put,ok.len],fun y hy=>by
  rcases List.mem_or_eq_of_mem_set hy with h|h
  ·exact ok.rng y h
  ·omega⟩
theorem At.put {w:World} {b:Nat} {k:Bk} (h:At w b k) (j:Nat) (x:Int):At (w.setCell ⟨b,2+j,none⟩ (.int .i64 x)) b (k.put j x):=by
 unfold At at *
 have hb:b<w.heap.size:=lt_of_block h
 simp only [World.setCell,Array.getElem?_modify,h,Option.map_some,if_true]
 simp [Bk.cells,Bk.put,Nat.add_comm 2 j,List.map_set]
def coreE (cores c:Int):Int:=if 0≤c∧c<cores then 0 else 3
set_option maxRecDepth 100000 in
set_option maxHeartbeats 400000 in
theorem core_any (b:Nat) (c cores:Int) (w:World) (h0:w.cell? ⟨b,0,none⟩=some (.int .i64 cores)):
  Calls Tryz.prog 101 #[.pointer (some ⟨b,0,none⟩), .int .i64 c] w fun e w'=>e= .returned (.int .i64 (coreE cores c))∧w=w':=by
 unfold coreE
 by_cases hc:c<0
 ·rw [if_neg (by omega)]
  go_enter Tryz.func101,Tryz.ntmps101
  go_wp2_with fail
  go_ret
  exact ⟨rfl,rfl⟩
 ·by_cases hc2:cores≤c
  ·rw [if_neg (by omega)]
   go_enter Tryz.func101,Tryz.ntmps101
   go_wp2_with fail
   go_ret
   exact ⟨rfl,rfl⟩
  ·rw [if_pos (by omega)]
   go_enter Tryz.func101,Tryz.ntmps101
   go_wp2_with fail
   go_ret
   exact ⟨rfl,rfl⟩
def heldTo (own:List Int) (c:Int) (m:Nat):List Int:=((List.range m).filter fun j=>own.getD j 0 == c+1).map fun j:Nat=>(j:Int)
theorem heldTo_yes (own:List Int) (c:Int) (m:Nat) (h:own.getD m 0=c+1):heldTo own c (m+1)=heldTo own c m ++ [(m:Int)]:=by
 unfold heldTo
 rw [List.range_succ,List.filter_append,List.map_append,List.filter_cons_of_pos (by simp only [beq_iff_eq];exact h)]
 rfl
theorem heldTo_no (own:List Int) (c:Int) (m:Nat) (h:own.getD m 0≠c+1):heldTo own c (m+1)=heldTo own c m:=by
 unfold heldTo
 rw [List.range_succ,List.filter_append,List.map_append,List.filter_cons_of_neg (by simp only [beq_iff_eq];exact h)]
 simp
theorem heldTo_len (own:List Int) (c:Int) (m:Nat):(heldTo own c m).length≤m:=by
 unfold heldTo
 rw [List.length_map]
 exact Nat.le_trans (List.length_filter_le _ _) (by simp)
def heldR (k:Bk) (c:Int):List Int:=if coreE k.cores c=0 then heldTo k.own c 16 else []
theorem Tryz.info3:(Tryz.prog.info? 3).map (fun i=>(i.zero,i.size,i.bytes))=some (some (.int .i64 0),1,8):=by kernel_rfl
theorem Tryz.info150:(Tryz.prog.info? 150).map (·.size)=some 16:=by kernel_rfl
theorem index_own (own:List Int) (hl:own.length=16) (j:Nat) (hj:j<16) (w:World):
  (Instr.index 150 (.agg (own.map (Value.int .i64)).toArray) (.int .i64 (j:Int))).run Tryz.prog w= .ok (.int .i64 (own.getD j 0)) w:=by
 have hu:=Tryz.underlying150
 have hs:(sizeOf 3).run Tryz.prog w= .ok 1 w:=by kernel_rfl
 have hb:(0:Int)≤(j:Int)∧(j:Int)<16:=by omega
 unfold Instr.index
 simp [asIntOf,hu,hs,hb,go_sem]
 rw [if_pos hj]
 simp [hl,hj]
theorem own_base {w:World} {base:Nat} {e:TypeId} {size:Nat} {v:Value} {n:Nat} {xs:List Value} (h:w.ownsRow base e size v n xs):∀k,v.ownBlock=some k→base≤k:=by
 rintro k hk
 obtain ⟨-,⟨rfl, -⟩|⟨g,cap,cur,rfl,hg, -⟩⟩:=h
 ·simp [Value.ownBlock] at hk
 ·simp [Value.ownBlock] at hk;omega
theorem own_range {w:World} {b:Nat} {k:Bk} (h:At w b k):w.rangeAt b 2 (k.own.map (Value.int .i64)):=fun j v hv=>by
 rw [h.cell,Nat.add_comm]
 simpa [Bk.cells] using hv
set_option maxRecDepth 100000 in
set_option maxHeartbeats 1000000 in
theorem held_any (b:Nat) (c:Int) (k:Bk) (w:World) (h:At w b k) (ok:k.Ok):
  Calls Tryz.prog 102 #[.pointer (some ⟨b,0,none⟩), .int .i64 c] w fun e w'=>∃v,e= .returned v∧w'.ownsRow w.heap.size 3 1 v (heldR k c).length ((heldR k c).map (Value.int .i64))∧Below w.heap.size w w':=by
 have h0:=h.cores
 unfold heldR
 by_cases hc:coreE k.cores c=0
 ·rw [if_pos hc]
  have hc8:0≤c∧c<8:=by unfold coreE at hc;have:=ok.c1;by_cases q:0≤c∧c<k.cores;omega;rw [if_neg q] at hc;omega
  have hc0:=hc8.1
  have hc1:=hc8.2
  have hb:(coreE k.cores c != 0)=false:=by rw [hc];rfl
  have Hc:=Lib.hid hc;clear hc hc8
  have hl:=ok.len
  have hrow:=own_range h
  have hu49:=Tryz.underlying150
  have hlen:(k.own.map (Value.int .i64)).length=16:=by simp [hl]
  have HI:=Lib.hid (index_own k.own hl)
  have Hl:=Lib.hid hl;clear hl
  go_enter Tryz.func102,Tryz.ntmps102
  go_wp2_with fail
  refine (core_any b c k.cores _ h0).mono ?_
  rintro e w' ⟨rfl,rfl⟩
  go_wp2_with (refine wpList_load_mid rfl 150 _ rfl b 2 rfl _ _ hrow hu49 rfl (by rw [hlen];exact Tryz.info150) ?_)
  obtain ⟨i0,hi,hz0,hz1,hz2⟩:=info_parts Tryz.info3
  go_loopw [5,16] (fun v i wr=>∃m:Nat,m≤16∧i= .int .i64 m∧wr.ownsRow w.heap.size 3 1 v (heldTo k.own c m).length ((heldTo k.own c m).map (Value.int .i64))∧Below w.heap.size w wr)
   (fun _ i _=>16-(intOf i).toNat)
  case atStart=>exact ⟨0,by omega,rfl,World.ownsRow_nil _ _ _ _,Below.refl _ _⟩
  case round=>
   obtain ⟨m,hm,rfl,hown,hbel⟩:=hrel
   by_cases hlt:m<16
   ·have hix:=HI.out m hlt
    have hL:=heldTo_len k.own c m
    have hbs:=hbel.size
    by_cases hx:k.own.getD m 0=c+1
    ·have hy:=Lib.hid (heldTo_yes k.own c m hx)
     rw [hx] at hix
     clear hx
     go_wp2_with (at_builtin;refine wpList_append_own _ rfl _ _ 31 rfl w.heap.size 3 i0 (.int .i64 0) 1 8 Tryz.underlying31 hi hz0 hz1 hz2 rfl (by decide) _ _ _ rfl (hown.alloc _) ⟨wr.heap.size,0,none⟩ 1 1 [.int .i64 (m:Int)] rfl rfl ?c1 ?c2 ?c3 ?c4 ?c5 ?_)
     case c1=>
      intro j u hj
      match j,hj with
      | 0,hj=>simp at hj;subst hj;simp [Addr.add]
     case c2=>intro u hu;simp at hu;subst hu;rfl
     case c3=>unfold maxLen;omega
     case c4=>omega
     case c5=>simp;omega
     intro v' w1 hown' hgrow _
     have hb1:Below w.heap.size w w1:=(hbel.alloc hbs _).grown hgrow (by simp;omega) (own_base hown)
     have hown2:w1.ownsRow w.heap.size 3 1 v' (heldTo k.own c (m+1)).length ((heldTo k.own c (m+1)).map (Value.int .i64)):=by
      rw [hy.out];simpa using hown'
     clear hown' hgrow hown hbel
     go_wp2_with fail
     go_roundw
     case rel=>exact ⟨m+1,by omega,by go_num,hown2,hb1⟩
     case measure=>simp [intOf];omega
    ·have hy:=Lib.hid (heldTo_no k.own c m hx)
     have hb2:(k.own.getD m 0 == c+1)=false:=by rw [beq_eq_false_iff_ne];exact hx
     generalize k.own.getD m 0=x at *
     clear hx
     go_wp2_with fail
     go_roundw
     case rel=>exact ⟨m+1,by omega,by go_num,by rw [hy.out];exact hown,hbel⟩
     case measure=>simp [intOf];omega
   ·have hm16:m=16:=by omega
    subst hm16
    go_wp2_with fail
    go_ret
    exact ⟨_,rfl,hown,hbel⟩
 ·rw [if_neg hc]
  have hb:(coreE k.cores c != 0)=true:=by rw [bne_iff_ne];exact hc
  have Hc:=Lib.hid hc;clear hc
  go_enter Tryz.func102,Tryz.ntmps102
  go_wp2_with fail
  refine (core_any b c k.cores _ h0).mono ?_
  rintro e w' ⟨rfl,rfl⟩
  go_wp2_with fail
  go_ret
  exact ⟨_,rfl,World.ownsRow_nil _ _ _ _,Below.refl _ _⟩
def without (own:List Int) (l:List Int):List Int:=l.foldl (fun o j=>o.set j.toNat 0) own
theorem without_len (l:List Int):∀own,(without own l).length=own.length:=by
 induction l with
 | nil=>intro own;rfl
 | cons x l ih=>intro own;show (without (own.set x.toNat 0) l).length=_;rw [ih];simp
theorem without_snoc (own l:List Int) (x:Int):without own (l ++ [x])=(without own l).set x.toNat 0:=by simp [without]
theorem heldTo_mem (own:List Int) (c:Int) (m:Nat) (x:Int) (h:x∈heldTo own c m):∃j:Nat,j<m∧x=(j:Int)∧own.getD j 0=c+1:=by
 unfold heldTo at h
 simp only [List.mem_map,List.mem_filter,List.mem_range,beq_iff_eq] at h
 obtain ⟨j,⟨h1,h2⟩,h3⟩:=h
 exact ⟨j,h1,h3.symm,h2⟩
theorem grown_trans {a b c:World} {row:Option Nat} (h:a.grownBy b row) (g:b.grownBy c row):a.grownBy c row:=
 ⟨g.os.trans h.os,g.tape.trans h.tape,g.output.trans h.output,Nat.le_trans h.size g.size,fun k hk hn=>(g.block k (Nat.lt_of_lt_of_le hk h.size) hn).trans (h.block k hk hn)⟩
def Bk.less (k:Bk) (l:List Int):Bk:= { k with own:=without k.own l }
def relR (k:Bk) (c:Int):Bk × Int × Int:=
 if coreE k.cores c=0 then (k.less (heldR k c),((heldR k c).length:Int),0) else (k,0,coreE k.cores c)
theorem At.less {w:World} {b:Nat} {k:Bk} (l:List Int) (j:Nat) (h:At w b (k.less l)):At (w.setCell ⟨b,2+j,none⟩ (.int .i64 0)) b (k.less (l ++ [(j:Int)])):=by
 have:=h.put j 0
 have e:(k.less l).put j 0=k.less (l ++ [(j:Int)]):=by
  unfold Bk.less Bk.put
  rw [without_snoc]
  simp
 rwa [e] at this
set_option maxRecDepth 100000 in
set_option maxHeartbeats 1000000 in
theorem release_any (b:Nat) (c:Int) (k:Bk) (w:World) (h:At w b k) (ok:k.Ok):
  Calls Tryz.prog 58 #[.pointer (some ⟨b,0,none⟩), .int .i64 c] w fun e w'=>e= .returned (.tuple #[.int .i64 (relR k c).2.1, .int .i64 (relR k c).2.2])∧At w' b (relR k c).1∧w.grownBy w' (some b):=by
 have h0:=h.cores
 have hbw:b<w.heap.size:=lt_of_block h
 unfold relR
 by_cases hc:coreE k.cores c=0
 ·rw [if_pos hc]
  have hmem:∀x∈heldR k c, ∃j:Nat,j<16∧x=(j:Int):=by
   intro x hx
   unfold heldR at hx
   rw [if_pos hc] at hx
   obtain ⟨j,h1,h2, -⟩:=heldTo_mem _ _ _ _ hx
   exact ⟨j,h1,h2⟩
  have hlen:(heldR k c).length≤16:=by
   unfold heldR
   rw [if_pos hc]
   exact heldTo_len _ _ _
  have hL:∃l,heldR k c=l:=⟨_,rfl⟩
  obtain ⟨l,hL⟩:=hL
  rw [hL] at hmem hlen ⊢
  have HL:=Lib.hid hL;clear hL
  have hb:(coreE k.cores c != 0)=false:=by rw [hc];rfl
  have Hc:=Lib.hid hc;clear hc
  go_enter Tryz.func58,Tryz.ntmps58
  go_wp2_with fail
  refine (core_any b c k.cores _ h0).mono ?_
  rintro e w' ⟨rfl,rfl⟩
  go_wp2_with fail
  refine (held_any b c k _ h ok).mono ?_
  rintro e w1 ⟨v,rfl,hown,hbel⟩
  rw [HL.out] at hown
  have hAt:At w1 b (k.less (l.take 0)):=by
   have e:k.less (l.take 0)=k:=by unfold Bk.less without;simp
   rw [e]
   unfold At at *
   rw [hbel.block b hbw];exact h
  have hg0:w.grownBy w1 (some b):=⟨hbel.os,hbel.tape,hbel.output,hbel.size,fun n hn _=>hbel.block n hn⟩
  have hls:=ok.len
  have Hm:=Lib.hid hmem
  clear hmem
  obtain ⟨hxl,⟨rfl,hl0⟩|⟨g,cap,cur,rfl,hgb,hblk,hncap,hcap,hcur,htake⟩⟩:=hown
  ·have hl:l= []:=List.eq_nil_of_length_eq_zero hl0
   subst hl
   go_wp2_with fail
   go_loopw [21] (fun i wr=>i= .int .i64 0∧At wr b (k.less [])∧w.grownBy wr (some b)) (fun i _=>0)
   case atStart=>exact ⟨rfl,hAt,hg0⟩
   case round=>
    obtain ⟨rfl,hA,hG⟩:=hrel
    go_wp2_with fail
    go_ret2
    exact ⟨rfl,hA,hG⟩
  ·have hown:w1.ownsRow w.heap.size 3 1 (.slice (some ⟨g,0,none⟩) l.length cap) l.length (l.map (Value.int .i64)):=⟨hxl, .inr ⟨g,cap,cur,rfl,hgb,hblk,hncap,hcap,hcur,htake⟩⟩
   clear hxl hblk hcur htake
   go_wp2_with fail
   go_loopw [21] (fun i wr=>∃m:Nat,m≤l.length∧i= .int .i64 m∧At wr b (k.less (l.take m))∧w.grownBy wr (some b)∧wr.ownsRow w.heap.size 3 1 (.slice (some ⟨g,0,none⟩) l.length cap) l.length (l.map (Value.int .i64)))
    (fun i _=>l.length-(intOf i).toNat)
   case atStart=>exact ⟨0,by omega,rfl,hAt,hg0,hown⟩
   case round=>
    obtain ⟨m,hm,rfl,hA,hG,hO⟩:=hrel
    by_cases hlt:m<l.length
    ·have hc1:=hO.cellAt m (by omega)
     obtain ⟨j,hj,hx⟩:=Hm.out (l[m]) (List.getElem_mem _)
     have hc2:wr.cell? ⟨g,m,none⟩=some (.int .i64 (j:Int)):=by rw [hc1];simp [hlt,hx]
     have hfr:=hA.free (2+j)
     have hce:=hA.own j (by show j<(without _ _).length;rw [without_len];omega)
     have htk:l.take (m+1)=l.take m ++ [(j:Int)]:=by rw [List.take_succ_eq_append_getElem hlt,hx]
     have hA2:At (wr.setCell ⟨b,2+j,none⟩ (.int .i64 0)) b (k.less (l.take (m+1))):=by rw [htk];exact hA.less _ j
     have hG2:w.grownBy (wr.setCell ⟨b,2+j,none⟩ (.int .i64 0)) (some b):=grown_trans hG (World.grownBy_set _ _ _)
     have hO2:(wr.setCell ⟨b,2+j,none⟩ (.int .i64 0)).ownsRow w.heap.size 3 1 (.slice (some ⟨g,0,none⟩) l.length cap) l.length (l.map (Value.int .i64)):=
      hO.kept (World.grownBy_set _ _ _) (.inr (by simp [Value.ownBlock];omega))
     have HA2:=Lib.hid (And.intro hA2 (And.intro hG2 hO2))
     clear hc1 hA hG hO hA2 hG2 hO2 htk hx hAt hg0 hown
     go_wp2_with fail
     go_roundw
     case rel=>exact ⟨m+1,by omega,by go_num,HA2.out.1,HA2.out.2.1,HA2.out.2.2⟩
     case measure=>simp [intOf];omega
    ·have hme:m=l.length:=by omega
     subst hme
     rw [List.take_length] at hA
     clear hO hown hAt hg0
     go_wp2_with fail
     go_ret2
     exact ⟨rfl,hA,hG⟩
 ·rw [if_neg hc]
  have hb:(coreE k.cores c != 0)=true:=by rw [bne_iff_ne];exact hc
  have Hc:=Lib.hid hc;clear hc
  go_enter Tryz.func58,Tryz.ntmps58
  go_wp2_with fail
  refine (core_any b c k.cores _ h0).mono ?_
  rintro e w' ⟨rfl,rfl⟩
  go_wp2_with fail
  go_ret2
  exact ⟨rfl,h,World.grownBy_self _ _⟩
def newBk (c n:Int):Bk:= { cores:=c,n:=n,own:=List.replicate 16 0 }
def isNew (c n:Int):Prop:=1≤c∧c≤8∧1≤n∧n≤16
theorem newBk_ok {c n:Int} (h:isNew c n):(newBk c n).Ok:=⟨h.1,h.2.1,h.2.2.1,h.2.2.2,by simp [newBk],fun x hx=>by simp [newBk] at hx;omega⟩
set_option maxRecDepth 100000 in
set_option maxHeartbeats 400000 in
theorem new_yes (c n:Int) (w:World) (h:isNew c n):
  Calls Tryz.prog 41 #[.int .i64 c, .int .i64 n] w fun e w'=>e= .returned (.pointer (some ⟨w.heap.size,0,none⟩))∧At w' w.heap.size (newBk c n)∧Below w.heap.size w w'∧w.heap.size<w'.heap.size:=by
 obtain ⟨h1,h2,h3,h4⟩:=h
 go_enter Tryz.func41,Tryz.ntmps41
 go_wp2_with fail
 go_ret
 refine ⟨rfl, ?_,(Below.refl _ _).alloc (Nat.le_refl _) _,by simp⟩
 exact heap_alloc_new w _
theorem cells_len {k:Bk} (ok:k.Ok):k.cells.length=18:=by simp [Bk.cells,ok.len]
end Go.Proofs.YtaaffebnajjfhaaGreatDoor.T.Banks
