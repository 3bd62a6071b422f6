/- Texts of this proof, merged: Grant. -/
import Derived.Test.YtaaffebnajjfhaaGreatDoorH01
import Derived.Test.YtaaffebnajjfhaaGreatDoorH02
import Derived.WalkKit
import Derived.WalkSpells
import Derived.WalkSmall
import Derived.Deep.Draws
import Derived.Deep.QuietTactic
import Derived.BigQuiet
import Derived.Deep.RegionHeld3
import Derived.Deep.DrawnRows
import Derived.Deep.DeepCutAuto
import Derived.StillTailTactics
import Derived.Laws.BitsLemmas
import Derived.Lib.Hide
import Derived.Outline
import Derived.KernelRfl
import Derived.OwnWalk
import Derived.Deep.MidRow
import Derived.Deep.WholeRow
import Derived.Laws.Rows
namespace Go.Proofs.YtaaffebnajjfhaaGreatDoor.T.Grants
set_option linter.unusedVariables false
set_option linter.unusedSimpArgs false
open Go.RowKit
theorem grown_self (w:World) (row:Option Nat):w.grownBy w row:=⟨rfl,rfl,rfl,Nat.le_refl _,fun _ _ _=>rfl⟩
theorem grown_set (w:World) (a:Addr) (v:Value):w.grownBy (w.setCell a v) (some a.block):=
 ⟨rfl,rfl,rfl,by simp [World.setCell],fun k _ hn=>Below.heap_setCell _ _ _ _ (by simpa using hn)⟩
theorem grown_trans {a b c:World} {row:Option Nat} (h:a.grownBy b row) (g:b.grownBy c row):a.grownBy c row:=
 ⟨g.os.trans h.os,g.tape.trans h.tape,g.output.trans h.output,Nat.le_trans h.size g.size,fun k hk hn=>(g.block k (Nat.lt_of_lt_of_le hk h.size) hn).trans (h.block k hk hn)⟩
theorem grown_drew {a b:World} {row:Option Nat} (h:a.grownBy b row):a.grownBy b.drew row:=⟨h.os,h.tape,h.output,h.size,h.block⟩
theorem and63 (n:Int):bits .and .i64 n 63=n%64:=by
 have hm:(BitVec.ofInt 64 63).toNat=2 ^ 6-1:=by decide
 have key:(BitVec.ofInt 64 n &&& BitVec.ofInt 64 63).toNat=(n%((2 ^ 64:Nat):Int)).toNat%2 ^ 6:=by
  rw [BitVec.toNat_and,BitVec.toNat_ofInt,hm,Nat.and_two_pow_sub_one_eq_mod]
 show IntKind.i64.wrap ((BitVec.ofInt 64 n &&& BitVec.ofInt 64 63).toNat:Nat)=n%64
 rw [key,IntKind.wrap_i64]
 omega
structure Tb where
 n:Int
 gens:List Int
 held:List Bool
def Tb.cells (k:Tb):List Value:= .int .i64 k.n :: (k.gens.map (Value.int .i64)++k.held.map Value.bool)
structure Tb.Ok (k:Tb):Prop where
 n0:1≤k.n
 n1:k.n≤64
 lg:k.gens.length=64
 lh:k.held.length=64
 rng:∀x∈k.gens,0≤x∧x≤65535
def At (w:World) (b:Nat) (k:Tb):Prop:=w.heap[b]? = some (.cells k.cells.toArray 192 (0,0))
theorem At.cell {w:World} {b:Nat} {k:Tb} (h:At w b k) (j:Nat):w.cell? ⟨b,j,none⟩=k.cells[j]? := by
 unfold At at h
 simp [World.cell?,h]
theorem At.n {w:World} {b:Nat} {k:Tb} (h:At w b k):w.cell? ⟨b,0,none⟩=some (.int .i64 k.n):=by rw [h.cell];rfl
theorem At.gen {w:World} {b:Nat} {k:Tb} (h:At w b k) (ok:k.Ok) (j:Nat) (hj:j<64):w.cell? ⟨b,1+j,none⟩=some (.int .i64 (k.gens.getD j 0)):=by
 have hl:=ok.lg
 rw [h.cell,Nat.add_comm]
 show (k.gens.map (Value.int .i64)++k.held.map Value.bool)[j]? = _
 rw [List.getElem?_append_left (by simp;omega)]
 simp [hl,hj]
theorem At.up {w:World} {b:Nat} {k:Tb} (h:At w b k) (ok:k.Ok) (j:Nat) (hj:j<64):w.cell? ⟨b,65+j,none⟩=some (.bool (k.held.getD j false)):=by
 have hl:=ok.lg
 have hh:=ok.lh
 rw [h.cell,show 65+j=(64+j)+1 by omega]
 show (k.gens.map (Value.int .i64)++k.held.map Value.bool)[64+j]? = _
 rw [List.getElem?_append_right (by simp;omega)]
 simp [hl,hh,hj]
theorem At.free {w:World} {b:Nat} {k:Tb} (h:At w b k) (j:Nat):w.frozen? ⟨b,j,none⟩=false:=by
 unfold At at h
 simp [World.frozen?,h]
theorem At.drew {w:World} {b:Nat} {k:Tb} (h:At w b k):At w.drew b k:=h
theorem At.alloc {w:World} {b:Nat} {k:Tb} (h:At w b k) (o:Obj):At (w.alloc o) b k:=by
 unfold At at *
 rw [heap_alloc_old _ _ (lt_of_block h)];exact h
theorem Tb.Ok.get {k:Tb} (ok:k.Ok) (j:Nat) (hj:j<64):0≤k.gens.getD j 0∧k.gens.getD j 0≤65535:=by
 have hl:=ok.lg
 have e:k.gens.getD j 0=k.gens[j]'(by omega):=by simp [List.getD_eq_getElem?_getD,hl,hj]
 rw [e]
 exact ok.rng _ (List.getElem_mem _)
def Tb.hold (k:Tb) (j:Nat) (x:Bool):Tb:= { k with held:=k.held.set j x }
def Tb.gen (k:Tb) (j:Nat) (x:Int):Tb:= { k with gens:=k.gens.set j x }
theorem Tb.Ok.hold {k:Tb} (ok:k.Ok) (j:Nat) (x:Bool):(k.hold j x).Ok:=⟨ok.n0,ok.n1,ok.lg,by simp [Tb.hold,ok.lh],ok.rng⟩
theorem Tb.Ok.gen {k:Tb} (ok:k.Ok) (j:Nat) (x:Int) (h0:0≤x) (h1:x≤65535):(k.gen j x).Ok:=⟨ok.n0,ok.n1,by simp [Tb.gen,ok.lg],ok.lh,fun y hy=>by
  rcases List.mem_or_eq_of_mem_set hy with h|h
  ·exact ok.rng y h
  ·omega⟩
theorem At.hold {w:World} {b:Nat} {k:Tb} (h:At w b k) (ok:k.Ok) (j:Nat) (x:Bool):At (w.setCell ⟨b,65+j,none⟩ (.bool x)) b (k.hold j x):=by
 have hl:=ok.lg
 unfold At at *
 have hb:b<w.heap.size:=lt_of_block h
 simp only [World.setCell,Array.getElem?_modify,h,Option.map_some,if_true]
 congr 2
 simp only [Tb.cells,Tb.hold,List.map_set]
 rw [show 65+j=(64+j)+1 by omega]
 simp [hl]
theorem At.setGen {w:World} {b:Nat} {k:Tb} (h:At w b k) (ok:k.Ok) (j:Nat) (hj:j<64) (x:Int):At (w.setCell ⟨b,1+j,none⟩ (.int .i64 x)) b (k.gen j x):=by
 have hl:=ok.lg
 unfold At at *
 have hb:b<w.heap.size:=lt_of_block h
 simp only [World.setCell,Array.getElem?_modify,h,Option.map_some,if_true]
 congr 2
 simp only [Tb.cells,Tb.gen,List.map_set]
 rw [Nat.add_comm 1 j]
 simp [hl,hj,List.set_append]
set_option maxRecDepth 100000 in
theorem len_any (b:Nat) (n:Int) (w:World) (h0:w.cell? ⟨b,0,none⟩=some (.int .i64 n)):
  Calls Tryz.prog 124 #[.pointer (some ⟨b,0,none⟩)] w fun e w'=>e= .returned (.int .i64 n)∧w=w':=by
 go_enter Tryz.func124,Tryz.ntmps124
 go_wp2_with fail
 go_ret
 exact ⟨rfl,rfl⟩
def giveR (k:Tb) (i:Int):Tb × Int × Bool:=
 if 0≤i∧i<k.n∧k.held.getD i.toNat false=false then ((k.gen i.toNat ((k.gens.getD i.toNat 0+1)%65536)).hold i.toNat true,(k.gens.getD i.toNat 0+1)%65536*64+i,true) else (k,0,false)
set_option maxRecDepth 100000 in
set_option maxHeartbeats 1000000 in
theorem give_any (b:Nat) (i:Int) (k:Tb) (w:World) (h:At w b k) (ok:k.Ok):
  Calls Tryz.prog 179 #[.pointer (some ⟨b,0,none⟩), .int .i64 i] w fun e w'=>e= .returned (.tuple #[.int .i64 (giveR k i).2.1, .bool (giveR k i).2.2])∧At w' b (giveR k i).1∧w.grownBy w' (some b):=by
 have h0:=h.n
 unfold giveR
 by_cases hi0:i<0
 ·rw [if_neg (by omega)]
  go_enter Tryz.func179,Tryz.ntmps179
  go_wp2_with fail
  go_ret2
  exact ⟨rfl,h,grown_self _ _⟩
 ·by_cases hi1:k.n≤i
  ·rw [if_neg (by omega)]
   go_enter Tryz.func179,Tryz.ntmps179
   go_wp2_with fail
   refine (len_any b k.n _ h0).mono ?_
   rintro e w' ⟨rfl,rfl⟩
   go_wp2_with fail
   go_ret2
   exact ⟨rfl,h,grown_self _ _⟩
  ·obtain ⟨j,rfl⟩:=Int.eq_ofNat_of_zero_le (by omega:0≤i)
   have hn1:=ok.n1
   have hj:j<64:=by omega
   have hu:=h.up ok j hj
   rw [Int.toNat_natCast]
   cases hx:k.held.getD j false
   ·rw [if_pos ⟨by omega,by omega,rfl⟩]
    rw [hx] at hu
    obtain ⟨r0,r1⟩:=ok.get j hj
    have hg:=h.gen ok j hj
    have hf1:=h.free (1+j)
    have hf2:=h.free (65+j)
    have ok1:=ok.gen j ((k.gens.getD j 0+1)%65536) (by omega) (by omega)
    have hA1:=(h.setGen ok j hj ((k.gens.getD j 0+1)%65536))
    have hA2:=hA1.hold ok1 j true
    have HA:=Lib.hid hA2
    have HG:=Lib.hid (grown_trans (grown_set w ⟨b,1+j,none⟩ (.int .i64 ((k.gens.getD j 0+1)%65536))) (grown_set _ ⟨b,65+j,none⟩ (.bool true)))
    clear hA1 hA2 ok1 hx
    generalize k.gens.getD j 0=x at *
    go_enter Tryz.func179,Tryz.ntmps179
    go_wp2_with fail
    refine (len_any b k.n _ h0).mono ?_
    rintro e w' ⟨rfl,rfl⟩
    go_wp2_with fail
    have hj0:(0:Int)≤(j:Int):=by omega
    have hj8:(j:Int)<64:=by omega
    go_region_with (go_at_call 103;refine (add_any x 1 _).mono ?_;rintro e w' ⟨rfl,rfl⟩)
    all_goals
     go_wp2_with fail
     go_ret2
     exact ⟨rfl,HA.out,grown_drew HG.out⟩
   ·rw [if_neg (by simp)]
    rw [hx] at hu
    clear hx
    go_enter Tryz.func179,Tryz.ntmps179
    go_wp2_with fail
    refine (len_any b k.n _ h0).mono ?_
    rintro e w' ⟨rfl,rfl⟩
    go_wp2_with fail
    go_ret2
    exact ⟨rfl,h,grown_self _ _⟩
def good (k:Tb) (h:Int):Prop:=h%64<k.n∧k.held.getD (h%64).toNat false=true∧k.gens.getD (h%64).toNat 0*64+h%64=h
instance (k:Tb) (h:Int):Decidable (good k h):=by unfold good;infer_instance
def slotR (k:Tb) (h:Int):Int × Bool:=if good k h then (h%64,true) else (0,false)
theorem slot_yes {k:Tb} {x:Int} {j:Nat} (hj:x%64=(j:Int)):((j:Int)<k.n∧k.held.getD j false=true∧k.gens.getD j 0*64+(j:Int)=x)→slotR k x=((j:Int),true):=fun h=>by
 unfold slotR
 have hg:good k x:=by unfold good;rw [hj,Int.toNat_natCast];exact h
 rw [if_pos hg,hj]
theorem slot_no {k:Tb} {x:Int} {j:Nat} (hj:x%64=(j:Int)): ¬((j:Int)<k.n∧k.held.getD j false=true∧k.gens.getD j 0*64+(j:Int)=x)→slotR k x=(0,false):=fun h=>by
 unfold slotR
 have hg: ¬good k x:=by unfold good;rw [hj,Int.toNat_natCast];exact h
 rw [if_neg hg]
set_option maxRecDepth 100000 in
set_option maxHeartbeats 1000000 in
theorem slot_any (b:Nat) (x:Int) (k:Tb) (w:World) (h:At w b k) (ok:k.Ok):
  Calls Tryz.prog 93 #[.pointer (some ⟨b,0,none⟩), .int .i64 x] w fun e w'=>e= .returned (.tuple #[.int .i64 (slotR k x).1, .bool (slotR k x).2])∧w=w':=by
 have h0:=h.n
 have hn1:=ok.n1
 have ha:=and63 x
 obtain ⟨j,hj⟩:=Int.eq_ofNat_of_zero_le (by omega:0≤x%64)
 have hj64:j<64:=by omega
 have hyes:=Lib.hid (slot_yes (k:=k) hj)
 have hno:=Lib.hid (slot_no (k:=k) hj)
 rw [hj] at ha
 have HJ:=Lib.hid hj;clear hj
 by_cases h1:k.n≤(j:Int)
 ·rw [hno.out (by omega)]
  have HA:=Lib.hid ha;clear ha
  go_enter Tryz.func93,Tryz.ntmps93
  go_wp2_with fail
  refine (len_any b k.n _ h0).mono ?_
  rintro e w' ⟨rfl,rfl⟩
  rw [HA.out]
  go_wp2_with fail
  go_ret2
  exact ⟨rfl,rfl⟩
 ·have hu:=h.up ok j hj64
  cases hx:k.held.getD j false
  ·rw [hno.out (by rw [hx];simp)]
   rw [hx] at hu
   have HA:=Lib.hid ha;clear ha hx
   go_enter Tryz.func93,Tryz.ntmps93
   go_wp2_with fail
   refine (len_any b k.n _ h0).mono ?_
   rintro e w' ⟨rfl,rfl⟩
   rw [HA.out]
   go_wp2_with fail
   go_ret2
   exact ⟨rfl,rfl⟩
  ·rw [hx] at hu
   obtain ⟨r0,r1⟩:=ok.get j hj64
   have hg:=h.gen ok j hj64
   rw [hx] at hyes hno
   generalize k.gens.getD j 0=g at *
   by_cases he:g*64+(j:Int)=x
   ·rw [hyes.out ⟨by omega,rfl,he⟩]
    have hb:(g*64+(j:Int) != x)=false:=by rw [bne_eq_false_iff_eq];exact he
    have HA:=Lib.hid ha;clear ha hx he
    go_enter Tryz.func93,Tryz.ntmps93
    go_wp2_with fail
    refine (len_any b k.n _ h0).mono ?_
    rintro e w' ⟨rfl,rfl⟩
    rw [HA.out]
    go_wp2_with fail
    go_ret2
    exact ⟨rfl,rfl⟩
   ·rw [hno.out (by rintro ⟨-, -,q⟩;exact he q)]
    have hb:(g*64+(j:Int) != x)=true:=by rw [bne_iff_ne];exact he
    have HA:=Lib.hid ha;clear ha hx he
    go_enter Tryz.func93,Tryz.ntmps93
    go_wp2_with fail
    refine (len_any b k.n _ h0).mono ?_
    rintro e w' ⟨rfl,rfl⟩
    rw [HA.out]
    go_wp2_with fail
    go_ret2
    exact ⟨rfl,rfl⟩
def dropR (k:Tb) (h:Int):Tb × Int:=if good k h then (k.hold (h%64).toNat false,0) else (k,7)
set_option maxRecDepth 100000 in
set_option maxHeartbeats 1000000 in
theorem drop_any (b:Nat) (x:Int) (k:Tb) (w:World) (h:At w b k) (ok:k.Ok):
  Calls Tryz.prog 94 #[.pointer (some ⟨b,0,none⟩), .int .i64 x] w fun e w'=>e= .returned (.int .i64 (dropR k x).2)∧At w' b (dropR k x).1∧w.grownBy w' (some b):=by
 have C:=Lib.hid (slot_any b x k w h ok)
 unfold dropR
 by_cases hg:good k x
 ·rw [if_pos hg]
  have hs:slotR k x=(x%64,true):=by unfold slotR;rw [if_pos hg]
  obtain ⟨j,hj⟩:=Int.eq_ofNat_of_zero_le (by omega:0≤x%64)
  have hj64:j<64:=by omega
  rw [hj] at hs ⊢
  rw [Int.toNat_natCast]
  have hu:=h.up ok j hj64
  have hf:=h.free (65+j)
  have HA:=Lib.hid (h.hold ok j false)
  have HS:=Lib.hid hs
  clear hs hg hj
  go_enter Tryz.func94,Tryz.ntmps94
  go_wp2_with fail
  refine C.out.mono ?_
  rintro e w' ⟨rfl,rfl⟩
  rw [HS.out]
  go_wp2_with fail
  go_ret
  exact ⟨rfl,HA.out,grown_set _ _ _⟩
 ·rw [if_neg hg]
  have hs:slotR k x=(0,false):=by unfold slotR;rw [if_neg hg]
  have HS:=Lib.hid hs
  clear hs hg
  go_enter Tryz.func94,Tryz.ntmps94
  go_wp2_with fail
  refine C.out.mono ?_
  rintro e w' ⟨rfl,rfl⟩
  rw [HS.out]
  go_wp2_with fail
  go_ret
  exact ⟨rfl,h,grown_self _ _⟩
def heldTo (held:List Bool) (m:Nat):List Int:=((List.range m).filter fun j=>held.getD j false).map fun j:Nat=>(j:Int)
theorem heldTo_yes (held:List Bool) (m:Nat) (h:held.getD m false=true):heldTo held (m+1)=heldTo held m ++ [(m:Int)]:=by
 unfold heldTo
 rw [List.range_succ,List.filter_append,List.map_append,List.filter_cons_of_pos (p:=fun j=>held.getD j false) h]
 rfl
theorem heldTo_no (held:List Bool) (m:Nat) (h:held.getD m false=false):heldTo held (m+1)=heldTo held m:=by
 unfold heldTo
 rw [List.range_succ,List.filter_append,List.map_append,List.filter_cons_of_neg (p:=fun j=>held.getD j false) (by rw [h];simp)]
 simp
theorem heldTo_len (held:List Bool) (m:Nat):(heldTo held m).length≤m:=by
 unfold heldTo
 rw [List.length_map]
 exact Nat.le_trans (List.length_filter_le _ _) (by simp)
def heldR (k:Tb):List Int:=heldTo k.held k.n.toNat
theorem Tryz.info3:(Tryz.prog.info? 3).map (fun i=>(i.zero,i.size,i.bytes))=some (some (.int .i64 0),1,8):=by kernel_rfl
theorem own_base {w:World} {base:Nat} {e:TypeId} {size:Nat} {v:Value} {n:Nat} {xs:List Value} (h:w.ownsRow base e size v n xs):∀k,v.ownBlock=some k→base≤k:=by
 rintro k hk
 obtain ⟨-,⟨rfl, -⟩|⟨g,cap,cur,rfl,hg, -⟩⟩:=h
 ·simp [Value.ownBlock] at hk
 ·simp [Value.ownBlock] at hk;omega
set_option maxRecDepth 100000 in
set_option maxHeartbeats 1000000 in
theorem held_any (b:Nat) (k:Tb) (w:World) (h:At w b k) (ok:k.Ok):
  Calls Tryz.prog 175 #[.pointer (some ⟨b,0,none⟩)] w fun e w'=>∃v,e= .returned v∧w'.ownsRow w.heap.size 3 1 v (heldR k).length ((heldR k).map (Value.int .i64))∧Below w.heap.size w w':=by
 have h0:=h.n
 have hbw:b<w.heap.size:=lt_of_block h
 have hn0:=ok.n0
 have hn1:=ok.n1
 unfold heldR
 obtain ⟨n,hn⟩:=Int.eq_ofNat_of_zero_le (by omega:0≤k.n)
 rw [hn] at h0 hn0 hn1 ⊢
 rw [Int.toNat_natCast]
 have HN:=Lib.hid hn;clear hn
 obtain ⟨i0,hi,hz0,hz1,hz2⟩:=info_parts Tryz.info3
 go_enter Tryz.func175,Tryz.ntmps175
 go_wp2_with fail
 refine (len_any b n _ h0).mono ?_
 rintro e w' ⟨rfl,rfl⟩
 go_wp2_with fail
 go_loopw [3,7] (fun v i wr=>∃m:Nat,m≤n∧i= .int .i64 m∧wr.ownsRow w.heap.size 3 1 v (heldTo k.held m).length ((heldTo k.held m).map (Value.int .i64))∧Below w.heap.size w wr)
  (fun _ i _=>n-(intOf i).toNat)
 case atStart=>exact ⟨0,by omega,rfl,World.ownsRow_nil _ _ _ _,Below.refl _ _⟩
 case round=>
  obtain ⟨m,hm,rfl,hown,hbel⟩:=hrel
  by_cases hlt:m<n
  ·have hL:=heldTo_len k.held m
   have hbs:=hbel.size
   have hc:=(hbel.cell (p:=⟨b,65+m,none⟩) hbw).trans (h.up ok m (by omega))
   cases hx:k.held.getD m false
   ·have hy:=Lib.hid (heldTo_no k.held m hx)
    rw [hx] at hc
    clear hx
    go_wp2_with fail
    go_roundw
    case rel=>exact ⟨m+1,by omega,by go_num,by rw [hy.out];exact hown,hbel⟩
    case measure=>simp [intOf];omega
   ·have hy:=Lib.hid (heldTo_yes k.held m hx)
    rw [hx] at hc
    clear hx
    go_wp2_with (at_builtin;refine wpList_append_own _ rfl _ _ 31 rfl w.heap.size 3 i0 (.int .i64 0) 1 8 Tryz.underlying31 hi hz0 hz1 hz2 rfl (by decide) _ _ _ rfl (hown.alloc _) ⟨wr.heap.size,0,none⟩ 1 1 [.int .i64 (m:Int)] rfl rfl ?c1 ?c2 ?c3 ?c4 ?c5 ?_)
    case c1=>
     intro j u hj
     match j,hj with
     | 0,hj=>simp at hj;subst hj;simp [Addr.add]
    case c2=>intro u hu;simp at hu;subst hu;rfl
    case c3=>unfold maxLen;omega
    case c4=>omega
    case c5=>simp;omega
    intro v' w1 hown' hgrow _
    have hb1:Below w.heap.size w w1:=(hbel.alloc hbs _).grown hgrow (by simp;omega) (own_base hown)
    have hown2:w1.ownsRow w.heap.size 3 1 v' (heldTo k.held (m+1)).length ((heldTo k.held (m+1)).map (Value.int .i64)):=by
     rw [hy.out];simpa using hown'
    clear hown' hgrow hown hbel
    go_wp2_with fail
    go_roundw
    case rel=>exact ⟨m+1,by omega,by go_num,hown2,hb1⟩
    case measure=>simp [intOf];omega
  ·have hm16:m=n:=by omega
   subst hm16
   go_wp2_with fail
   go_ret
   exact ⟨_,rfl,hown,hbel⟩
def newTb (n:Int):Tb:= { n:=n,gens:=List.replicate 64 0,held:=List.replicate 64 false }
def isNew (n:Int):Prop:=1≤n∧n≤64
theorem newTb_ok {n:Int} (h:isNew n):(newTb n).Ok:=⟨h.1,h.2,by simp [newTb],by simp [newTb],fun x hx=>by simp [newTb] at hx;omega⟩
theorem cells_len {k:Tb} (ok:k.Ok):k.cells.length=129:=by simp [Tb.cells,ok.lg,ok.lh]
theorem zero53 (w:World):(zeroValue 192).run Tryz.prog w= .ok (.agg (newTb 0).cells.toArray) w:=by kernel_rfl
theorem zeros:∃zs:Array Value,(∀w,(zeroValue 192).run Tryz.prog w= .ok (.agg zs) w)∧zs.size=129∧zs≠ #[]∧∀n:Int,zs.setIfInBounds 0 (.int .i64 n)=(newTb n).cells.toArray:=by
 have h1:(newTb 0).cells.length=129:=by simp [newTb,Tb.cells]
 refine ⟨(newTb 0).cells.toArray,zero53,by rw [List.size_toArray];exact h1,fun h=> ?_,fun n=> ?_⟩
 ·have:=congrArg Array.size h
  rw [List.size_toArray,h1] at this
  simp at this
 ·simp [newTb,Tb.cells]
set_option maxHeartbeats 1000000 in
set_option maxRecDepth 100000 in
theorem new_yes (n:Int) (w:World) (h:isNew n):
  Calls Tryz.prog 84 #[.int .i64 n] w fun e w'=>e= .returned (.pointer (some ⟨w.heap.size,0,none⟩))∧At w' w.heap.size (newTb n)∧Below w.heap.size w w'∧w.heap.size<w'.heap.size:=by
 obtain ⟨h1,h2⟩:=h
 obtain ⟨zs,hzv,hzs,hzn,hset⟩:=zeros
 have hset:=hset n
 go_enter Tryz.func84,Tryz.ntmps84
 go_wp2_with fail
 go_ret
 refine ⟨rfl, ?_,(Below.refl _ _).alloc (Nat.le_refl _) _,by simp⟩
 exact heap_alloc_new w _
theorem setCells_mid (b:Nat) (t:TypeId):∀(vs pre mid post:List Value) (w:World),w.heap[b]? = some (.cells (pre++(mid++post)).toArray t (0,0))→mid.length=vs.length→
  (w.setCells b pre.length vs).heap[b]? = some (.cells (pre++(vs++post)).toArray t (0,0))∧(w.grownBy (w.setCells b pre.length vs) (some b)):=by
 intro vs
 induction vs with
 | nil=>
  intro pre mid post w h hl
  have:mid= []:=List.eq_nil_of_length_eq_zero hl
  subst this
  exact ⟨h,grown_self _ _⟩
 | cons v vs ih=>
  intro pre mid post w h hl
  match mid,hl with
  | m0 :: mid,hl=>
   have hl':mid.length=vs.length:=by simpa using hl
   have h1:(w.setCell ⟨b,pre.length,none⟩ v).heap[b]? = some (.cells ((pre ++ [v])++(mid++post)).toArray t (0,0)):=by
    simp only [World.setCell,Array.getElem?_modify,h,Option.map_some,if_true]
    simp
   obtain ⟨g1,g2⟩:=ih (pre ++ [v]) mid post (w.setCell ⟨b,pre.length,none⟩ v) h1 hl'
   rw [List.length_append,List.length_singleton] at g1 g2
   have g1':(((w.setCell ⟨b,pre.length,none⟩ v).setCells b (pre.length+1) vs).heap[b]?)=some (.cells (pre++(v :: vs++post)).toArray t (0,0)):=by
    rw [g1];simp
   exact ⟨g1',grown_trans (grown_set _ _ _) g2⟩
def Tb.none_ (k:Tb):Tb:= { k with held:=List.replicate 64 false }
theorem Tb.Ok.none_ {k:Tb} (ok:k.Ok):k.none_.Ok:=⟨ok.n0,ok.n1,ok.lg,by simp [Tb.none_],ok.rng⟩
def falses:List Value:=List.replicate 64 (.bool false)
theorem At.clear {w:World} {b:Nat} {k:Tb} (h:At w b k) (ok:k.Ok):At (w.setCells b 65 falses) b k.none_∧w.grownBy (w.setCells b 65 falses) (some b):=by
 have hg:=ok.lg
 have hh:=ok.lh
 have e:(Value.int .i64 k.n :: k.gens.map (Value.int .i64)).length=65:=by simp [hg]
 have h':w.heap[b]? = some (.cells ((Value.int .i64 k.n :: k.gens.map (Value.int .i64))++(k.held.map Value.bool ++ [])).toArray 192 (0,0)):=by
  rw [List.append_nil];exact h
 have:=setCells_mid b 192 falses _ _ _ w h' (by simp [falses,hh])
 rw [e,List.append_nil] at this
 refine ⟨?_,this.2⟩
 unfold At
 rw [this.1]
 simp [Tb.cells,Tb.none_,falses]
set_option maxHeartbeats 1000000 in
set_option maxRecDepth 100000 in
theorem clear_any (b:Nat) (k:Tb) (w:World) (h:At w b k) (ok:k.Ok):
  Calls Tryz.prog 177 #[.pointer (some ⟨b,0,none⟩)] w fun e w'=>e= .returned (.int .i64 ((heldR k).length:Int))∧At w' b k.none_∧w.grownBy w' (some b):=by
 have hbw:b<w.heap.size:=lt_of_block h
 have hne:∀w,(binOp .neq 160 (.pointer (some ⟨b,0,none⟩)) (.pointer none)).run Tryz.prog w= .ok (.bool true) w:=fun _=>by kernel_rfl
 have hlen:=cells_len ok
 have hi51:(Tryz.prog.info? 190).map (·.size)=some 64:=by kernel_rfl
 have h1f:falses.toArray.all (·.oneCell')=true:=all_oneCell_toArray fun v hv=>by rw [List.eq_of_mem_replicate hv];rfl
 have hL:(heldR k).length≤64:=by have:=heldTo_len k.held k.n.toNat;have:=ok.n1;unfold heldR;omega
 go_enter Tryz.func177,Tryz.ntmps177
 go_wp2_with fail
 refine (held_any b k _ h ok).mono ?_
 rintro e w1 ⟨v,rfl,hown,hbel⟩
 have hA1:At w1 b k:=by unfold At at *;rw [hbel.block b hbw];exact h
 have hG1:w.grownBy w1 (some b):=⟨hbel.os,hbel.tape,hbel.output,hbel.size,fun n hn _=>hbel.block n hn⟩
 have hth:w1.there b 65 64:=fun j hj=>⟨by rw [hA1.cell];simp [hlen];omega,hA1.free _⟩
 obtain ⟨hA2,hG2⟩:=hA1.clear ok
 have HA2:=Lib.hid (And.intro hA2 (grown_trans hG1 hG2))
 obtain ⟨cap,A,rfl⟩:∃cap A,v= .slice A (heldR k).length cap:=by
  obtain ⟨-,⟨rfl,h0⟩|⟨g,cap,cur,rfl, -⟩⟩:=hown
  ·exact ⟨0,none,by rw [h0]⟩
  ·exact ⟨cap,_,rfl⟩
 clear hA2 hG2 hown hbel hG1 hA1
 go_wp2_with (refine wpList_store_mid rfl 190 _ _ rfl b 65 _ rfl rfl (by exact hth) (by exact hi51) (by exact h1f) ?_)
 go_ret
 exact ⟨rfl,HA2.out⟩
end Go.Proofs.YtaaffebnajjfhaaGreatDoor.T.Grants
