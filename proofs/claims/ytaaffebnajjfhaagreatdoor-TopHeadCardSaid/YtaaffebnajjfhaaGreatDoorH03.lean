/- Texts of this proof, merged: Gate. -/
import Derived.Test.YtaaffebnajjfhaaGreatDoorH01
import Derived.Test.YtaaffebnajjfhaaGreatDoorH02
import Derived.WalkKit
import Derived.WalkSpells
import Derived.WalkSmall
import Derived.Deep.Draws
import Derived.Deep.QuietTactic
import Derived.BigQuiet
import Derived.Deep.RegionHeld3
import Derived.Deep.DrawnRows
import Derived.Deep.DeepCutAuto
import Derived.Lib.Hide
import Derived.Outline
import Derived.KernelRfl
import Derived.StillTailTactics
import Derived.Deep.MidRow
import Derived.Deep.WholeRow
import Derived.Laws.Rows
import Derived.OwnWalk
namespace Go.Proofs.YtaaffebnajjfhaaGreatDoor.T.Gates
set_option linter.unusedVariables false
set_option linter.unusedSimpArgs false
open Go.RowKit
theorem grown_self (w:World) (row:Option Nat):w.grownBy w row:=⟨rfl,rfl,rfl,Nat.le_refl _,fun _ _ _=>rfl⟩
theorem grown_set (w:World) (a:Addr) (v:Value):w.grownBy (w.setCell a v) (some a.block):=
 ⟨rfl,rfl,rfl,by simp [World.setCell],fun k _ hn=>Below.heap_setCell _ _ _ _ (by simpa using hn)⟩
theorem grown_trans {a b c:World} {row:Option Nat} (h:a.grownBy b row) (g:b.grownBy c row):a.grownBy c row:=
 ⟨g.os.trans h.os,g.tape.trans h.tape,g.output.trans h.output,Nat.le_trans h.size g.size,fun k hk hn=>(g.block k (Nat.lt_of_lt_of_le hk h.size) hn).trans (h.block k hk hn)⟩
theorem grown_drew {a b:World} {row:Option Nat} (h:a.grownBy b row):a.grownBy b.drew row:=⟨h.os,h.tape,h.output,h.size,h.block⟩
structure Gt where
 cores:Int
 eps:List Int
 held:List Bool
def Gt.cells (k:Gt):List Value:= .int .i64 k.cores :: (k.eps.map (Value.int .i64)++k.held.map Value.bool)
structure Gt.Ok (k:Gt):Prop where
 c0:1≤k.cores
 c1:k.cores≤8
 le:k.eps.length=8
 lh:k.held.length=8
 rng:∀x∈k.eps,0≤x∧x≤65535
def At (w:World) (b:Nat) (k:Gt):Prop:=w.heap[b]? = some (.cells k.cells.toArray 156 (0,0))
theorem At.cell {w:World} {b:Nat} {k:Gt} (h:At w b k) (j:Nat):w.cell? ⟨b,j,none⟩=k.cells[j]? := by
 unfold At at h
 simp [World.cell?,h]
theorem At.cores {w:World} {b:Nat} {k:Gt} (h:At w b k):w.cell? ⟨b,0,none⟩=some (.int .i64 k.cores):=by rw [h.cell];rfl
theorem At.ep {w:World} {b:Nat} {k:Gt} (h:At w b k) (ok:k.Ok) (j:Nat) (hj:j<8):w.cell? ⟨b,1+j,none⟩=some (.int .i64 (k.eps.getD j 0)):=by
 have hl:=ok.le
 rw [h.cell,Nat.add_comm]
 show (k.eps.map (Value.int .i64)++k.held.map Value.bool)[j]? = _
 rw [List.getElem?_append_left (by simp;omega)]
 simp [hl,hj]
theorem At.up {w:World} {b:Nat} {k:Gt} (h:At w b k) (ok:k.Ok) (j:Nat) (hj:j<8):w.cell? ⟨b,9+j,none⟩=some (.bool (k.held.getD j false)):=by
 have hl:=ok.le
 have hh:=ok.lh
 rw [h.cell,show 9+j=(8+j)+1 by omega]
 show (k.eps.map (Value.int .i64)++k.held.map Value.bool)[8+j]? = _
 rw [List.getElem?_append_right (by simp;omega)]
 simp [hl,hh,hj]
theorem At.free {w:World} {b:Nat} {k:Gt} (h:At w b k) (j:Nat):w.frozen? ⟨b,j,none⟩=false:=by
 unfold At at h
 simp [World.frozen?,h]
theorem At.drewN {w:World} {b:Nat} {k:Gt} (h:At w b k) (n:Nat):At (w.drewN n) b k:=h
theorem At.alloc {w:World} {b:Nat} {k:Gt} (h:At w b k) (o:Obj):At (w.alloc o) b k:=by
 unfold At at *
 rw [heap_alloc_old _ _ (lt_of_block h)];exact h
theorem Gt.Ok.get {k:Gt} (ok:k.Ok) (j:Nat) (hj:j<8):0≤k.eps.getD j 0∧k.eps.getD j 0≤65535:=by
 have hl:=ok.le
 have e:k.eps.getD j 0=k.eps[j]'(by omega):=by simp [List.getD_eq_getElem?_getD,hl,hj]
 rw [e]
 exact ok.rng _ (List.getElem_mem _)
def Gt.hold (k:Gt) (j:Nat) (x:Bool):Gt:= { k with held:=k.held.set j x }
def Gt.ep (k:Gt) (j:Nat) (x:Int):Gt:= { k with eps:=k.eps.set j x }
theorem Gt.Ok.hold {k:Gt} (ok:k.Ok) (j:Nat) (x:Bool):(k.hold j x).Ok:=⟨ok.c0,ok.c1,ok.le,by simp [Gt.hold,ok.lh],ok.rng⟩
theorem Gt.Ok.ep {k:Gt} (ok:k.Ok) (j:Nat) (x:Int) (h0:0≤x) (h1:x≤65535):(k.ep j x).Ok:=⟨ok.c0,ok.c1,by simp [Gt.ep,ok.le],ok.lh,fun y hy=>by
  rcases List.mem_or_eq_of_mem_set hy with h|h
  ·exact ok.rng y h
  ·omega⟩
theorem At.hold {w:World} {b:Nat} {k:Gt} (h:At w b k) (ok:k.Ok) (j:Nat) (x:Bool):At (w.setCell ⟨b,9+j,none⟩ (.bool x)) b (k.hold j x):=by
 have hl:=ok.le
 unfold At at *
 have hb:b<w.heap.size:=lt_of_block h
 simp only [World.setCell,Array.getElem?_modify,h,Option.map_some,if_true]
 congr 2
 simp only [Gt.cells,Gt.hold,List.map_set]
 rw [show 9+j=(8+j)+1 by omega]
 simp [hl]
theorem At.setEp {w:World} {b:Nat} {k:Gt} (h:At w b k) (ok:k.Ok) (j:Nat) (hj:j<8) (x:Int):At (w.setCell ⟨b,1+j,none⟩ (.int .i64 x)) b (k.ep j x):=by
 have hl:=ok.le
 unfold At at *
 have hb:b<w.heap.size:=lt_of_block h
 simp only [World.setCell,Array.getElem?_modify,h,Option.map_some,if_true]
 congr 2
 simp only [Gt.cells,Gt.ep,List.map_set]
 rw [Nat.add_comm 1 j]
 simp [hl,hj,List.set_append]
def coreE (cores c:Int):Int:=if 0≤c∧c<cores then 0 else 3
theorem core_in {cores c:Int} (h:coreE cores c=0):0≤c∧c<cores:=by
 unfold coreE at h
 by_cases q:0≤c∧c<cores
 ·exact q
 ·rw [if_neg q] at h;omega
set_option maxHeartbeats 400000 in
theorem wrong_any (b:Nat) (c cores:Int) (w:World) (h0:w.cell? ⟨b,0,none⟩=some (.int .i64 cores)):
  Calls Tryz.prog 95 #[.pointer (some ⟨b,0,none⟩), .int .i64 c] w fun e w'=>e= .returned (.int .i64 (coreE cores c))∧w=w':=by
 unfold coreE
 by_cases hc:c<0
 ·rw [if_neg (by omega)]
  go_enter Tryz.func95,Tryz.ntmps95
  go_wp2_with fail
  go_ret
  exact ⟨rfl,rfl⟩
 ·by_cases hc2:cores≤c
  ·rw [if_neg (by omega)]
   go_enter Tryz.func95,Tryz.ntmps95
   go_wp2_with fail
   go_ret
   exact ⟨rfl,rfl⟩
  ·rw [if_pos (by omega)]
   go_enter Tryz.func95,Tryz.ntmps95
   go_wp2_with fail
   go_ret
   exact ⟨rfl,rfl⟩
def upR (k:Gt) (c:Int):Bool:=decide (coreE k.cores c=0) && !(k.held.getD c.toNat false)
set_option maxHeartbeats 400000 in
theorem up_any (b:Nat) (c:Int) (k:Gt) (w:World) (h:At w b k) (ok:k.Ok):
  Calls Tryz.prog 121 #[.pointer (some ⟨b,0,none⟩), .int .i64 c] w fun e w'=>e= .returned (.bool (upR k c))∧w=w':=by
 have h0:=h.cores
 unfold upR
 by_cases hc:coreE k.cores c=0
 ·obtain ⟨g0,g1⟩:=core_in hc
  obtain ⟨j,rfl⟩:=Int.eq_ofNat_of_zero_le g0
  have hc1:=ok.c1
  have hj:j<8:=by omega
  have hi:=h.up ok j hj
  rw [Int.toNat_natCast,hc]
  have hb:(coreE k.cores (j:Int) == 0)=true:=by rw [hc];rfl
  generalize k.held.getD j false=x at *
  have Hc:=Lib.hid hc;clear hc
  go_enter Tryz.func121,Tryz.ntmps121
  go_wp2_with fail
  refine (wrong_any b (j:Int) k.cores _ h0).mono ?_
  rintro e w' ⟨rfl,rfl⟩
  go_wp2_with fail
  go_ret
  exact ⟨by simp,rfl⟩
 ·have hd:decide (coreE k.cores c=0)=false:=by simpa using hc
  rw [hd]
  have hb:(coreE k.cores c == 0)=false:=by rw [beq_eq_false_iff_ne];exact hc
  clear hc hd
  go_enter Tryz.func121,Tryz.ntmps121
  go_wp2_with fail
  refine (wrong_any b c k.cores _ h0).mono ?_
  rintro e w' ⟨rfl,rfl⟩
  go_wp2_with fail
  go_ret
  exact ⟨by simp,rfl⟩
def epR (k:Gt) (c:Int):Int:=if coreE k.cores c=0 then k.eps.getD c.toNat 0 else 0
set_option maxHeartbeats 400000 in
theorem epoch_any (b:Nat) (c:Int) (k:Gt) (w:World) (h:At w b k) (ok:k.Ok):
  Calls Tryz.prog 60 #[.pointer (some ⟨b,0,none⟩), .int .i64 c] w fun e w'=>e= .returned (.tuple #[.int .i64 (epR k c), .int .i64 (coreE k.cores c)])∧w=w':=by
 have h0:=h.cores
 unfold epR
 by_cases hc:coreE k.cores c=0
 ·rw [if_pos hc,hc]
  obtain ⟨g0,g1⟩:=core_in hc
  obtain ⟨j,rfl⟩:=Int.eq_ofNat_of_zero_le g0
  have hc1:=ok.c1
  have hj:j<8:=by omega
  have hi:=h.ep ok j hj
  rw [Int.toNat_natCast]
  have hb:(coreE k.cores (j:Int) != 0)=false:=by rw [hc];rfl
  generalize k.eps.getD j 0=x at *
  have Hc:=Lib.hid hc;clear hc
  go_enter Tryz.func60,Tryz.ntmps60
  go_wp2_with fail
  refine (wrong_any b (j:Int) k.cores _ h0).mono ?_
  rintro e w' ⟨rfl,rfl⟩
  go_wp2_with fail
  go_ret2
  exact ⟨rfl,rfl⟩
 ·rw [if_neg hc]
  have hb:(coreE k.cores c != 0)=true:=by rw [bne_iff_ne];exact hc
  clear hc
  go_enter Tryz.func60,Tryz.ntmps60
  go_wp2_with fail
  refine (wrong_any b c k.cores _ h0).mono ?_
  rintro e w' ⟨rfl,rfl⟩
  go_wp2_with fail
  go_ret2
  exact ⟨rfl,rfl⟩
attribute [local go_sem ↓] Go.wp_at_zero Go.wp_at_succ
def holdR (k:Gt) (c:Int):Gt × Int:=
 if coreE k.cores c=0 then (if k.held.getD c.toNat false=true then (k,11) else (k.hold c.toNat true,0)) else (k,coreE k.cores c)
set_option maxHeartbeats 400000 in
theorem hold_any (b:Nat) (c:Int) (k:Gt) (w:World) (h:At w b k) (ok:k.Ok):
  Calls Tryz.prog 55 #[.pointer (some ⟨b,0,none⟩), .int .i64 c] w fun e w'=>e= .returned (.int .i64 (holdR k c).2)∧At w' b (holdR k c).1∧w.grownBy w' (some b):=by
 have h0:=h.cores
 unfold holdR
 by_cases hc:coreE k.cores c=0
 ·rw [if_pos hc]
  obtain ⟨g0,g1⟩:=core_in hc
  obtain ⟨j,rfl⟩:=Int.eq_ofNat_of_zero_le g0
  have hc1:=ok.c1
  have hj:j<8:=by omega
  have hi:=h.up ok j hj
  have hf:=h.free (9+j)
  rw [Int.toNat_natCast]
  have hb:(coreE k.cores (j:Int) != 0)=false:=by rw [hc];rfl
  have HA:=Lib.hid (h.hold ok j true)
  by_cases hx:k.held.getD j false=true
  ·rw [if_pos hx]
   rw [hx] at hi
   have Hc:=Lib.hid hc;clear hc hx
   go_enter Tryz.func55,Tryz.ntmps55
   go_wp2_with fail
   refine (wrong_any b (j:Int) k.cores _ h0).mono ?_
   rintro e w' ⟨rfl,rfl⟩
   go_wp2_with fail
   go_ret
   exact ⟨rfl,h,grown_self _ _⟩
  ·rw [if_neg hx]
   have hx':k.held.getD j false=false:=by cases hq:k.held.getD j false;rfl;exact absurd hq hx
   rw [hx'] at hi
   have Hc:=Lib.hid hc;clear hc hx hx'
   go_enter Tryz.func55,Tryz.ntmps55
   go_wp2_with fail
   refine (wrong_any b (j:Int) k.cores _ h0).mono ?_
   rintro e w' ⟨rfl,rfl⟩
   go_wp2_with fail
   go_ret
   exact ⟨rfl,HA.out,grown_set _ _ _⟩
 ·rw [if_neg hc]
  have hb:(coreE k.cores c != 0)=true:=by rw [bne_iff_ne];exact hc
  clear hc
  go_enter Tryz.func55,Tryz.ntmps55
  go_wp2_with fail
  refine (wrong_any b c k.cores _ h0).mono ?_
  rintro e w' ⟨rfl,rfl⟩
  go_wp2_with fail
  go_ret
  exact ⟨rfl,h,grown_self _ _⟩
def startR (k:Gt) (c:Int):Gt × Int:=
 if coreE k.cores c=0 then (if k.held.getD c.toNat false=true then ((k.hold c.toNat false).ep c.toNat ((k.eps.getD c.toNat 0+1)%65536),0) else (k,13)) else (k,coreE k.cores c)
set_option maxRecDepth 100000 in
set_option maxHeartbeats 1000000 in
theorem start_any (b:Nat) (c:Int) (k:Gt) (w:World) (h:At w b k) (ok:k.Ok):
  Calls Tryz.prog 59 #[.pointer (some ⟨b,0,none⟩), .int .i64 c] w fun e w'=>e= .returned (.int .i64 (startR k c).2)∧At w' b (startR k c).1∧w.grownBy w' (some b):=by
 have h0:=h.cores
 unfold startR
 by_cases hc:coreE k.cores c=0
 ·rw [if_pos hc]
  obtain ⟨g0,g1⟩:=core_in hc
  obtain ⟨j,rfl⟩:=Int.eq_ofNat_of_zero_le g0
  have hc1:=ok.c1
  have hj:j<8:=by omega
  have hi:=h.up ok j hj
  have hf:=h.free (9+j)
  rw [Int.toNat_natCast]
  have hb:(coreE k.cores (j:Int) != 0)=false:=by rw [hc];rfl
  have hA1:=h.hold ok j false
  have ok1:=ok.hold j false
  by_cases hx:k.held.getD j false=true
  ·rw [if_pos hx]
   rw [hx] at hi
   have he:=hA1.ep ok1 j hj
   have hr:=ok.get j hj
   have hf2:=hA1.free (1+j)
   have HA:=Lib.hid (hA1.setEp ok1 j hj ((k.eps.getD j 0+1)%65536))
   have HG:=Lib.hid (grown_set w ⟨b,9+j,none⟩ (.bool false))
   rw [show (k.hold j false).eps=k.eps from rfl] at he
   obtain ⟨hr0,hr1⟩:=hr
   generalize k.eps.getD j 0=x at *
   have Hc:=Lib.hid hc;clear hc hx hA1 ok1
   go_enter Tryz.func59,Tryz.ntmps59
   go_wp2_with fail
   refine (wrong_any b (j:Int) k.cores _ h0).mono ?_
   rintro e w' ⟨rfl,rfl⟩
   go_wp2_with fail
   generalize w.setCell ⟨b,9+j,none⟩ (.bool false)=w1 at *
   have he2:w1.drew.cell? ⟨b,1+j,none⟩=some (.int .i64 x):=he
   have hj0:(0:Int)≤(j:Int):=by omega
   have hj8:(j:Int)<8:=by omega
   refine wp_region_still_tail 12 (by kernel_rfl) (by kernel_rfl) ?_
   simp only [List.take_succ_cons,List.take_zero,List.drop_succ_cons,List.drop_zero]
   change wpStill _ _ w1.drew _ _ _
   repeat still_step
   still_call ((add_any x 1 _).mono fun _ _ h=>⟨h.1,h.2.symm⟩)
   repeat still_step
   refine wpStill_nil ?_
   change wpList _ _ _ _ _ w1.drew
   have hf3:w1.drew.frozen? ⟨b,1+j,none⟩=false:=hf2
   go_wp2_with fail
   go_ret
   exact ⟨rfl,HA.out,grown_trans HG.out (grown_drew (grown_set _ _ _))⟩
  ·rw [if_neg hx]
   have hx':k.held.getD j false=false:=by cases hq:k.held.getD j false;rfl;exact absurd hq hx
   rw [hx'] at hi
   have Hc:=Lib.hid hc;clear hc hx hx' hA1
   go_enter Tryz.func59,Tryz.ntmps59
   go_wp2_with fail
   refine (wrong_any b (j:Int) k.cores _ h0).mono ?_
   rintro e w' ⟨rfl,rfl⟩
   go_wp2_with fail
   go_ret
   exact ⟨rfl,h,grown_self _ _⟩
 ·rw [if_neg hc]
  have hb:(coreE k.cores c != 0)=true:=by rw [bne_iff_ne];exact hc
  clear hc
  go_enter Tryz.func59,Tryz.ntmps59
  go_wp2_with fail
  refine (wrong_any b c k.cores _ h0).mono ?_
  rintro e w' ⟨rfl,rfl⟩
  go_wp2_with fail
  go_ret
  exact ⟨rfl,h,grown_self _ _⟩
def newGt (c:Int):Gt:= { cores:=c,eps:=List.replicate 8 0,held:=List.replicate 8 false }
def isNew (c:Int):Prop:=1≤c∧c≤8
theorem newGt_ok {c:Int} (h:isNew c):(newGt c).Ok:=⟨h.1,h.2,by simp [newGt],by simp [newGt],fun x hx=>by simp [newGt] at hx;omega⟩
set_option maxHeartbeats 400000 in
theorem new_yes (c:Int) (w:World) (h:isNew c):
  Calls Tryz.prog 42 #[.int .i64 c] w fun e w'=>e= .returned (.pointer (some ⟨w.heap.size,0,none⟩))∧At w' w.heap.size (newGt c)∧Below w.heap.size w w'∧w.heap.size<w'.heap.size:=by
 obtain ⟨h1,h2⟩:=h
 go_enter Tryz.func42,Tryz.ntmps42
 go_wp2_with fail
 go_ret
 refine ⟨rfl, ?_,(Below.refl _ _).alloc (Nat.le_refl _) _,by simp⟩
 exact heap_alloc_new w _
theorem cells_len {k:Gt} (ok:k.Ok):k.cells.length=17:=by simp [Gt.cells,ok.le,ok.lh]
end Go.Proofs.YtaaffebnajjfhaaGreatDoor.T.Gates
