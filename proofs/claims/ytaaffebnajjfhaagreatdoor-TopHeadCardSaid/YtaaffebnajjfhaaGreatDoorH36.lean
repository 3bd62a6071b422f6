/- Texts of this proof, merged: Frs8, New1, Frs9, Frs10. -/
import Derived.Test.YtaaffebnajjfhaaGreatDoorH35
namespace Go.Proofs.YtaaffebnajjfhaaGreatDoor.T
set_option linter.unusedVariables false
set_option linter.unusedSimpArgs false
set_option linter.unusedSectionVars false
open Go.RowKit
theorem zero109:(Tryz.prog.info? 109).map (fun i=>(i.zero,i.size,i.bytes))=some (some (.pointer none),1,8):=by kernel_rfl
theorem zero111:(Tryz.prog.info? 111).map (fun i=>(i.zero,i.size,i.bytes))=some (some (.pointer none),1,8):=by kernel_rfl
theorem under66:Tryz.prog.underlying 66=some (.slice 109):=by kernel_rfl
theorem under67:Tryz.prog.underlying 67=some (.slice 111):=by kernel_rfl
theorem gp_push (W:World) (v:Value) (n:Nat) (xs:List Value) (hn:n≤100) (h:RowZ W 109 1 v n xs) (a:Option Addr):
  ∃A7 q7 w7,(Builtin.append_ #[66,66] 66 #[v, .slice (some ⟨W.heap.size,0,none⟩) 1 1]).run Tryz.prog (W.alloc (.cells #[.pointer a] 109))= .ok (.slice A7 (n+1) q7) w7∧
   RowZ w7 109 1 (.slice A7 (n+1) q7) (n+1) (xs ++ [.pointer a])∧(W.alloc (.cells #[.pointer a] 109)).grownBy w7 v.ownBlock∧((Value.slice A7 (n+1) q7).ownBlock=v.ownBlock∨(Value.slice A7 (n+1) q7).ownBlock=some (W.alloc (.cells #[.pointer a] 109)).heap.size):=by
 obtain ⟨i0,hi,hzz⟩:=Option.map_eq_some_iff.1 zero109
 simp only [Prod.mk.injEq] at hzz
 obtain ⟨hz0,hz1,hz2⟩:=hzz
 have hb:Below W.heap.size W (W.alloc (.cells #[.pointer a] 109)):=(Below.refl _ _).alloc (Nat.le_refl _) _
 have n6:=Blk.new W 109 [.pointer a]
 obtain ⟨v7,w7,h1,h2,h3,h4⟩:=RowZ.append (P:=Tryz.prog) (W.alloc (.cells #[.pointer a] 109)) 66 66 109 i0 _ 1 8 under66 hi hz0 hz1 hz2 rfl (by decide) _ _ _ (h.move fun k q=>hb.block k (h.lt k q)) ⟨W.heap.size,0,none⟩ 1 1 [.pointer a] rfl
  (by intro j u hu;rw [add_lit,Nat.zero_add];exact (n6.cell j).trans hu) (by intro u hu;rw [List.mem_singleton.1 hu];rfl) (by unfold maxLen;omega) (by omega)
 obtain ⟨A7,q7,hv⟩:=h2.slice
 subst hv
 exact ⟨A7,q7,w7,h1,h2,h3,h4⟩
theorem tp_push (W:World) (v:Value) (n:Nat) (xs:List Value) (hn:n≤100) (h:RowZ W 111 1 v n xs) (a:Option Addr):
  ∃A7 q7 w7,(Builtin.append_ #[67,67] 67 #[v, .slice (some ⟨W.heap.size,0,none⟩) 1 1]).run Tryz.prog (W.alloc (.cells #[.pointer a] 111))= .ok (.slice A7 (n+1) q7) w7∧
   RowZ w7 111 1 (.slice A7 (n+1) q7) (n+1) (xs ++ [.pointer a])∧(W.alloc (.cells #[.pointer a] 111)).grownBy w7 v.ownBlock∧((Value.slice A7 (n+1) q7).ownBlock=v.ownBlock∨(Value.slice A7 (n+1) q7).ownBlock=some (W.alloc (.cells #[.pointer a] 111)).heap.size):=by
 obtain ⟨i0,hi,hzz⟩:=Option.map_eq_some_iff.1 zero111
 simp only [Prod.mk.injEq] at hzz
 obtain ⟨hz0,hz1,hz2⟩:=hzz
 have hb:Below W.heap.size W (W.alloc (.cells #[.pointer a] 111)):=(Below.refl _ _).alloc (Nat.le_refl _) _
 have n6:=Blk.new W 111 [.pointer a]
 obtain ⟨v7,w7,h1,h2,h3,h4⟩:=RowZ.append (P:=Tryz.prog) (W.alloc (.cells #[.pointer a] 111)) 67 67 111 i0 _ 1 8 under67 hi hz0 hz1 hz2 rfl (by decide) _ _ _ (h.move fun k q=>hb.block k (h.lt k q)) ⟨W.heap.size,0,none⟩ 1 1 [.pointer a] rfl
  (by intro j u hu;rw [add_lit,Nat.zero_add];exact (n6.cell j).trans hu) (by intro u hu;rw [List.mem_singleton.1 hu];rfl) (by unfold maxLen;omega) (by omega)
 obtain ⟨A7,q7,hv⟩:=h2.slice
 subst hv
 exact ⟨A7,q7,w7,h1,h2,h3,h4⟩
def nilS:Value:= .slice none 0 0
def ptrRow (c i:Nat) (gb:Nat→Nat):List Value:=(List.range i).map fun p=>if p=c then .pointer none else ptr (gb p)
theorem ptrRow_push (c i:Nat) (gb:Nat→Nat) (g:Nat):ptrRow c (i+1) (upd gb i g)=ptrRow c i gb ++ [if i=c then .pointer none else ptr g]:=by
 unfold ptrRow
 rw [List.range_succ,List.map_append,List.map_cons,List.map_nil,upd_same]
 congr 1
 refine List.map_congr_left fun p hp=> ?_
 rw [upd_other _ _ _ _ (by have:=List.mem_range.1 hp;omega)]
structure FrIn (B:Nat) (u:World) (n r c own i j:Nat) (tg:Nat→Tag) (vg vt:Value) (gb:Nat→Nat) (vf:Nat→Value) (tk tt:Nat→Nat):Prop where
 le:B≤u.heap.size
 givs:RowZ u 109 1 vg i (ptrRow c i gb)
 taks:RowZ u 111 1 vt j (ptrRow c j tk)
 giv:∀p,p<i→p≠c→GivAt u (gb p) (vf p) nilS nilS (rawGiv (chanBase n r c p) r c p own).first
 tak:∀p,p<j→p≠c→TakAt u (tk p) (tt p) nilS (rawTak (chanBase n r p c) r c p own)
 rows:∀k,vg.ownBlock=some k∨vt.ownBlock=some k→B≤k∧tg k= .brd
 gF:∀p,p<i→p≠c→∀k,GivF (gb p) (vf p) nilS nilS k→B≤k∧tg k= .giv c p
 tF:∀p,p<j→p≠c→∀k,TakF (tk p) (tt p) nilS k→B≤k∧tg k= .tak c p
section
variable {B:Nat} {u u':World} {n r c own i j:Nat} {tg:Nat→Tag} {vg vt:Value} {gb:Nat→Nat} {vf:Nat→Value} {tk tt:Nat→Nat}
theorem FrIn.keep {F:Nat→Prop} (h:FrIn B u n r c own i j tg vg vt gb vf tk tt) (hk:Keep F u u') (hF:∀k,B≤k→ ¬F k):FrIn B u' n r c own i j tg vg vt gb vf tk tt:=
 ⟨Nat.le_trans h.le hk.size,h.givs.keep hk (fun k q=>hF k (h.rows k (.inl q)).1),h.taks.keep hk (fun k q=>hF k (h.rows k (.inr q)).1),
  fun p hp hpc=>(h.giv p hp hpc).keep hk (fun k q=>hF k (h.gF p hp hpc k q).1),fun p hp hpc=>(h.tak p hp hpc).keep hk (fun k q=>hF k (h.tF p hp hpc k q).1),h.rows,h.gF,h.tF⟩
theorem FrIn.fresh (h:FrIn B u n r c own i j tg vg vt gb vf tk tt) (hb:Below u.heap.size u u'):FrIn B u' n r c own i j tg vg vt gb vf tk tt:=h.keep (Keep.ofFresh hb (B:=0) (F:=fun _=>False)) (fun _ _ q=>q)
theorem FrIn.addG (h:FrIn B u n r c own i j tg vg vt gb vf tk tt) {g:Nat} {f:Value} {x w7:World} {v7:Value} {a:Option Addr} (hx:Below u.heap.size u x)
  (hg:i≠c→GivAt x g f nilS nilS (rawGiv (chanBase n r c i) r c i own).first∧∀k,GivF g f nilS nilS k→u.heap.size≤k) (ha:Value.pointer a=if i=c then .pointer none else ptr g)
  (hR:RowZ w7 109 1 v7 (i+1) (ptrRow c i gb ++ [.pointer a])) (hgr:(x.alloc (.cells #[.pointer a] 109)).grownBy w7 vg.ownBlock) (hat:v7.ownBlock=vg.ownBlock∨v7.ownBlock=some (x.alloc (.cells #[.pointer a] 109)).heap.size):
  FrIn B w7 n r c own (i+1) j (fun k=>if k<u.heap.size then tg k else if k<x.heap.size then .giv c i else .brd) v7 vt (upd gb i g) (upd vf i f) tk tt:=by
 have hxa:Below u.heap.size u (x.alloc (.cells #[.pointer a] 109)):=hx.alloc hx.size _
 have hax:Below x.heap.size x (x.alloc (.cells #[.pointer a] 109)):=(Below.refl _ _).alloc (Nat.le_refl _) _
 have hkg:Keep (fun k=>vg.ownBlock=some k) (x.alloc (.cells #[.pointer a] 109)) w7:=Keep.grown hgr
 have hsz:x.heap.size<(x.alloc (.cells #[.pointer a] 109)).heap.size:=by simp
 have hk1:Keep (fun k=>vg.ownBlock=some k) u w7:=(Keep.ofFresh hxa (B:=0)).trans' hkg
 have hlv:∀k,vg.ownBlock=some k→k<u.heap.size:=fun k q=>h.givs.lt k q
 rw [ha, ←ptrRow_push] at hR
 refine ⟨Nat.le_trans h.le (Nat.le_trans hxa.size hkg.size),hR,h.taks.keep hk1 (fun k q e=> ?_),fun p hp hpc=> ?_,fun p hp hpc=> ?_,fun k q=> ?_,fun p hp hpc k q=> ?_,fun p hp hpc k q=> ?_⟩
 ·obtain ⟨cur,hcur⟩:=h.taks.typed k q
  exact h.givs.ne hcur (by decide) e
 ·by_cases e:p=i
  ·subst e
   rw [upd_same,upd_same]
   obtain ⟨h1,h2⟩:=hg hpc
   refine (h1.fresh hax).keep hkg (fun k q e=> ?_)
   have:=h2 k q
   have:=hlv k e
   omega
  ·rw [upd_other _ _ _ _ e,upd_other _ _ _ _ e]
   refine (h.giv p (by omega) hpc).keep hk1 (fun k q e2=> ?_)
   have e3:=(h.gF p (by omega) hpc k q).2
   rw [(h.rows k (.inl e2)).2] at e3
   cases e3
 ·refine (h.tak p hp hpc).keep hk1 (fun k q e2=> ?_)
  have e3:=(h.tF p hp hpc k q).2
  rw [(h.rows k (.inl e2)).2] at e3
  cases e3
 ·rcases q with q|q
  ·rcases hat with e|e
   ·rw [e] at q
    exact ⟨(h.rows k (.inl q)).1,by rw [if_pos (hlv k q)];exact (h.rows k (.inl q)).2⟩
   ·rw [e] at q
    injection q with q
    have h1:=hx.size
    have h2:=h.le
    exact ⟨by omega,by rw [if_neg (by omega),if_neg (by omega)]⟩
  ·exact ⟨(h.rows k (.inr q)).1,by rw [if_pos (h.taks.lt k q)];exact (h.rows k (.inr q)).2⟩
 ·by_cases e:p=i
  ·subst e
   rw [upd_same,upd_same] at q
   obtain ⟨h1,h2⟩:=hg hpc
   have h3:=h2 k q
   have h4:=h1.lt k q
   have h5:=h.le
   exact ⟨by omega,by rw [if_neg (by omega),if_pos h4]⟩
  ·rw [upd_other _ _ _ _ e,upd_other _ _ _ _ e] at q
   have h1:=h.gF p (by omega) hpc k q
   exact ⟨h1.1,by rw [if_pos ((h.giv p (by omega) hpc).lt k q)];exact h1.2⟩
 ·have h1:=h.tF p hp hpc k q
  exact ⟨h1.1,by rw [if_pos ((h.tak p hp hpc).lt k q)];exact h1.2⟩
theorem FrIn.addT (h:FrIn B u n r c own i j tg vg vt gb vf tk tt) {g t:Nat} {x w7:World} {v7:Value} {a:Option Addr} (hx:Below u.heap.size u x)
  (hg:j≠c→TakAt x g t nilS (rawTak (chanBase n r j c) r c j own)∧∀k,TakF g t nilS k→u.heap.size≤k) (ha:Value.pointer a=if j=c then .pointer none else ptr g)
  (hR:RowZ w7 111 1 v7 (j+1) (ptrRow c j tk ++ [.pointer a])) (hgr:(x.alloc (.cells #[.pointer a] 111)).grownBy w7 vt.ownBlock) (hat:v7.ownBlock=vt.ownBlock∨v7.ownBlock=some (x.alloc (.cells #[.pointer a] 111)).heap.size):
  FrIn B w7 n r c own i (j+1) (fun k=>if k<u.heap.size then tg k else if k<x.heap.size then .tak c j else .brd) vg v7 gb vf (upd tk j g) (upd tt j t):=by
 have hxa:Below u.heap.size u (x.alloc (.cells #[.pointer a] 111)):=hx.alloc hx.size _
 have hax:Below x.heap.size x (x.alloc (.cells #[.pointer a] 111)):=(Below.refl _ _).alloc (Nat.le_refl _) _
 have hkg:Keep (fun k=>vt.ownBlock=some k) (x.alloc (.cells #[.pointer a] 111)) w7:=Keep.grown hgr
 have hsz:x.heap.size<(x.alloc (.cells #[.pointer a] 111)).heap.size:=by simp
 have hk1:Keep (fun k=>vt.ownBlock=some k) u w7:=(Keep.ofFresh hxa (B:=0)).trans' hkg
 have hlv:∀k,vt.ownBlock=some k→k<u.heap.size:=fun k q=>h.taks.lt k q
 rw [ha, ←ptrRow_push] at hR
 refine ⟨Nat.le_trans h.le (Nat.le_trans hxa.size hkg.size),h.givs.keep hk1 (fun k q e=> ?_),hR,fun p hp hpc=> ?_,fun p hp hpc=> ?_,fun k q=> ?_,fun p hp hpc k q=> ?_,fun p hp hpc k q=> ?_⟩
 ·obtain ⟨cur,hcur⟩:=h.givs.typed k q
  exact h.taks.ne hcur (by decide) e
 ·refine (h.giv p hp hpc).keep hk1 (fun k q e2=> ?_)
  have e3:=(h.gF p hp hpc k q).2
  rw [(h.rows k (.inr e2)).2] at e3
  cases e3
 ·by_cases e:p=j
  ·subst e
   rw [upd_same,upd_same]
   obtain ⟨h1,h2⟩:=hg hpc
   refine (h1.fresh hax).keep hkg (fun k q e=> ?_)
   have:=h2 k q
   have:=hlv k e
   omega
  ·rw [upd_other _ _ _ _ e,upd_other _ _ _ _ e]
   refine (h.tak p (by omega) hpc).keep hk1 (fun k q e2=> ?_)
   have e3:=(h.tF p (by omega) hpc k q).2
   rw [(h.rows k (.inr e2)).2] at e3
   cases e3
 ·rcases q with q|q
  ·exact ⟨(h.rows k (.inl q)).1,by rw [if_pos (h.givs.lt k q)];exact (h.rows k (.inl q)).2⟩
  ·rcases hat with e|e
   ·rw [e] at q
    exact ⟨(h.rows k (.inr q)).1,by rw [if_pos (hlv k q)];exact (h.rows k (.inr q)).2⟩
   ·rw [e] at q
    injection q with q
    have h1:=hx.size
    have h2:=h.le
    exact ⟨by omega,by rw [if_neg (by omega),if_neg (by omega)]⟩
 ·have h1:=h.gF p hp hpc k q
  exact ⟨h1.1,by rw [if_pos ((h.giv p hp hpc).lt k q)];exact h1.2⟩
 ·by_cases e:p=j
  ·subst e
   rw [upd_same,upd_same] at q
   obtain ⟨h1,h2⟩:=hg hpc
   have h3:=h2 k q
   have h4:=h1.lt k q
   have h5:=h.le
   exact ⟨by omega,by rw [if_neg (by omega),if_pos h4]⟩
  ·rw [upd_other _ _ _ _ e,upd_other _ _ _ _ e] at q
   have h1:=h.tF p (by omega) hpc k q
   exact ⟨h1.1,by rw [if_pos ((h.tak p (by omega) hpc).lt k q)];exact h1.2⟩
end
theorem make_zeros (n:Nat) (hn:n≤65536) (w:World):(Instr.makeSlice 31 (.int .i64 (n:Int)) (.int .i64 (n:Int))).run Tryz.prog w= .ok (.slice (some ⟨w.heap.size,0,none⟩) n n) (w.alloc (.cells (List.replicate n (Value.int .i64 0)).toArray 3)):=by
 obtain ⟨i0,hi,hzz⟩:=Option.map_eq_some_iff.1 info3
 simp only [Prod.mk.injEq] at hzz
 obtain ⟨hz0,hz1,hz2⟩:=hzz
 have h:=run_make (P:=Tryz.prog) (w:=w) 31 3 i0 _ under31 hi hz0 .i64 .i64 n n (by omega) (by omega) (by rw [hz2];push_cast;omega) (by omega)
 rw [h]
 have:madeCells (Value.int IntKind.i64 0).cells ((n:Int).toNat*i0.size)=(List.replicate n (Value.int .i64 0)).toArray:=by
  rw [hz1]
  apply Array.ext'
  have e:((n:Int).toNat*1)=n:=by omega
  rw [e]
  show (madeCells #[Value.int .i64 0] n).toList=_
  rw [toList_madeCells_one]
 rw [this]
 rfl
theorem ramCells_zero (W:Nat):ramCells W (fun _=>0)=List.replicate W (Value.int .i64 0):=by
 unfold ramCells
 apply List.ext_getElem
 ·simp
 ·intro i h1 h2
  simp
set_option maxRecDepth 100000 in
theorem ramNew_any (W:Nat) (h1:1≤W) (h2:W≤65536) (w:World):
  Calls Tryz.prog 77 #[.int .i64 W] w fun e w'=>e= .returned (.tuple #[.pointer (some ⟨w.heap.size+1,0,none⟩), .int .i64 0])∧RamAt w' (w.heap.size+1) w.heap.size W (fun _=>0)∧Below w.heap.size w w':=by
 have hm:=fun u=>make_zeros W h2 u
 have e1:decide ((W:Int)<1)=false:=by simp;omega
 have e2:decide ((65536:Int)<W)=false:=by simp;omega
 have a1:=Blk.new w 3 (List.replicate W (Value.int .i64 0))
 have es:(w.alloc (.cells (List.replicate W (Value.int .i64 0)).toArray 3)).heap.size=w.heap.size+1:=by simp
 have a2:=Blk.new (w.alloc (.cells (List.replicate W (Value.int .i64 0)).toArray 3)) 183 [.slice (some ⟨w.heap.size,0,none⟩) W W]
 rw [es] at a2
 have hb:Below w.heap.size w ((w.alloc (.cells (List.replicate W (Value.int .i64 0)).toArray 3)).alloc (.cells [.slice (some ⟨w.heap.size,0,none⟩) W W].toArray 183)):=((Below.refl _ _).alloc (Nat.le_refl _) _).alloc (by rw [es];omega) _
 have hR:RamAt ((w.alloc (.cells (List.replicate W (Value.int .i64 0)).toArray 3)).alloc (.cells [.slice (some ⟨w.heap.size,0,none⟩) W W].toArray 183)) (w.heap.size+1) w.heap.size W (fun _=>0):=⟨a2,by rw [ramCells_zero];exact a1.alloc _,h2,fun _=>by decide⟩
 have HR:=Lib.hid (And.intro hR hb)
 clear a1 a2 hb hR
 go_enter Tryz.func77,Tryz.ntmps77
 go_wp2_with fail
 go_ret2
 exact ⟨rfl,HR.out.1,HR.out.2⟩
set_option maxRecDepth 100000 in
theorem laneNew_any (w:World):
  Calls Tryz.prog 80 #[.int .i64 16] w fun e w'=>e= .returned (.pointer (some ⟨w.heap.size+1,0,none⟩))∧LaneOk w' (w.heap.size+1) w.heap.size∧Below w.heap.size w w'∧w'.heap.size=w.heap.size+2:=by
 have hm:∀u:World,(Instr.makeSlice 31 (.int .i64 16) (.int .i64 16)).run Tryz.prog u= .ok (.slice (some ⟨u.heap.size,0,none⟩) 16 16) (u.alloc (.cells (List.replicate 16 (Value.int .i64 0)).toArray 3)):=fun u=>make_zeros 16 (by omega) u
 have a1:=Blk.new w 3 (List.replicate 16 (Value.int .i64 0))
 have es:(w.alloc (.cells (List.replicate 16 (Value.int .i64 0)).toArray 3)).heap.size=w.heap.size+1:=by simp
 have a2:=Blk.new (w.alloc (.cells (List.replicate 16 (Value.int .i64 0)).toArray 3)) 188 [.slice (some ⟨w.heap.size,0,none⟩) 16 16, .int .i64 0, .int .i64 0]
 rw [es] at a2
 have hb:Below w.heap.size w ((w.alloc (.cells (List.replicate 16 (Value.int .i64 0)).toArray 3)).alloc (.cells [.slice (some ⟨w.heap.size,0,none⟩) 16 16, .int .i64 0, .int .i64 0].toArray 188)):=((Below.refl _ _).alloc (Nat.le_refl _) _).alloc (by rw [es];omega) _
 have hR:LaneOk ((w.alloc (.cells (List.replicate 16 (Value.int .i64 0)).toArray 3)).alloc (.cells [.slice (some ⟨w.heap.size,0,none⟩) 16 16, .int .i64 0, .int .i64 0].toArray 188)) (w.heap.size+1) w.heap.size:=⟨0,0,a2,⟨_,a1.alloc _,by simp⟩,by decide,by decide⟩
 have HR:=Lib.hid (And.intro hR hb)
 clear a1 a2 hb hR
 go_enter Tryz.func80,Tryz.ntmps80
 go_wp2_with fail
 go_ret
 exact ⟨rfl,HR.out.1,HR.out.2,by simp⟩
theorem size71:(Tryz.prog.info? 71).map (·.size)=some 4:=by kernel_rfl
theorem base_nat (n r f t:Nat) (hn:1≤n) (hne:f≠t):baseZ n r f t=(chanBase n r f t:Int):=by
 unfold baseZ chanBase
 by_cases h:f<t
 ·rw [if_pos (by omega),if_pos h]
  have e1:((t-1:Nat):Int)=(t:Int)-1:=by omega
  have e2:((n-1:Nat):Int)=(n:Int)-1:=by omega
  simp only [Int.natCast_mul,Int.natCast_add,e1,e2]
  congr 1
  omega
 ·rw [if_neg (by omega),if_neg h]
  have e2:((n-1:Nat):Int)=(n:Int)-1:=by omega
  simp only [Int.natCast_mul,Int.natCast_add,e2]
  congr 1
  omega
theorem base_lt {n r f t:Nat} (hn:n≤8) (hr:r≤64) (hf:f<n) (ht:t<n):chanBase n r f t<65536:=by
 unfold chanBase
 have h1:f*(n-1)≤7*7:=Nat.mul_le_mul (by omega) (by omega)
 have h2:(f*(n-1)+if f<t then t-1 else t)≤56:=by split<;>omega
 have h3:(f*(n-1)+if f<t then t-1 else t)*(4+11*r)≤56*708:=Nat.mul_le_mul h2 (by omega)
 omega
def spanV (n r f t:Nat):Value:=if f=t then .agg #[.int .i64 0, .int .i64 0] else .agg #[.int .i64 (chanBase n r f t), .int .i64 r]
theorem of_all (n r m f t:Nat) (hR:rightB n r m=true) (hf:f<n) (ht:t<n) (w:World) (hg:Glob w):
  Calls Tryz.prog 44 #[plotV n r m, .int .i64 f, .int .i64 t] w fun e w'=>e= .returned (.tuple #[spanV n r f t, .bool (decide (f≠t))])∧Below w.heap.size w w':=by
 obtain ⟨hn0,hn1,⟨hr0,hr1⟩,hrb,hm0,hm1⟩:=right_of hR
 unfold spanV
 by_cases h:f=t
 ·subst h
  rw [if_pos rfl]
  have:=of_self n r m f hR (by omega) (by omega) w hg
  simpa using this
 ·rw [if_neg h]
  have:=of_yes n r m f t hR (by omega) (by omega) (by omega) (by omega) (by omega) w hg
  rw [base_nat n r f t (by omega) h] at this
  rw [decide_eq_true h]
  exact this
section
variable {B:Nat} {u x:World} {n r c own i j:Nat} {tg:Nat→Tag} {vg vt:Value} {gb:Nat→Nat} {vf:Nat→Value} {tk tt:Nat→Nat}
theorem gNew_row (h:FrIn B u n r c own i j tg vg vt gb vf tk tt) (hn:n≤8) (hrb:ringB (r:Int)=true) (hc:c<n) (hi:i<n) (ho:own<65536) (hg:Glob u) (hx:Below u.heap.size u x):
  Calls Tryz.prog 45 #[spanV n r c i, .int .i64 c, .int .i64 i, .int .i64 own] x fun e x'=>∃a,e= .returned (.pointer a)∧Below x.heap.size x x'∧∃A7 q7 w7,(Builtin.append_ #[66,66] 66 #[vg, .slice (some ⟨x'.heap.size,0,none⟩) 1 1]).run Tryz.prog (x'.alloc (.cells #[.pointer a] 109))= .ok (.slice A7 (i+1) q7) w7∧
   (x'.alloc (.cells #[.pointer a] 109)).grownBy w7 vg.ownBlock∧∃tg' gb' vf',FrIn B w7 n r c own (i+1) j tg' (.slice A7 (i+1) q7) vt gb' vf' tk tt:=by
 have hgx:=hg.fresh hx
 have fin:∀(x':World) (a:Option Addr) (g:Nat) (f:Value),Below x.heap.size x x'→(i≠c→GivAt x' g f nilS nilS (rawGiv (chanBase n r c i) r c i own).first∧∀k,GivF g f nilS nilS k→u.heap.size≤k)→(Value.pointer a=if i=c then .pointer none else ptr g)→
   ∃A7 q7 w7,(Builtin.append_ #[66,66] 66 #[vg, .slice (some ⟨x'.heap.size,0,none⟩) 1 1]).run Tryz.prog (x'.alloc (.cells #[.pointer a] 109))= .ok (.slice A7 (i+1) q7) w7∧
   (x'.alloc (.cells #[.pointer a] 109)).grownBy w7 vg.ownBlock∧∃tg' gb' vf',FrIn B w7 n r c own (i+1) j tg' (.slice A7 (i+1) q7) vt gb' vf' tk tt:=by
  intro x' a g f hb h1 h2
  have hux:Below u.heap.size u x':=hx.trans (hb.mono hx.size)
  have hrow:=(h.fresh hux).givs
  obtain ⟨A7,q7,w7,e1,e2,e3,e4⟩:=gp_push x' vg i _ (by omega) hrow a
  exact ⟨A7,q7,w7,e1,e3,_,_,_,h.addG hux h1 h2 e2 e3 e4⟩
 by_cases e:i=c
 ·have es:spanV n r c i= .agg #[.int .i64 0, .int .i64 0]:=by unfold spanV;rw [if_pos e.symm]
  rw [es]
  refine (gNew_nil c i own x hgx).mono ?_
  rintro e' x' ⟨rfl,hb⟩
  exact ⟨none,rfl,hb,fin x' none 0 (.slice none 0 0) hb (fun q=>absurd e q) (by rw [if_pos e])⟩
 ·have es:spanV n r c i= .agg #[.int .i64 (chanBase n r c i), .int .i64 r]:=by unfold spanV;rw [if_neg (Ne.symm e)]
  rw [es]
  obtain ⟨hr0,hr1⟩:=ringB_nat hrb
  refine (gNew_any (chanBase n r c i) r c i own (base_lt hn hr1 hc hi) hrb (by omega) (by omega) (Ne.symm e) ho x hgx).mono ?_
  rintro e' x' ⟨rfl,⟨vf',h1,h2⟩,hb⟩
  have hsx:=hx.size
  refine ⟨_,rfl,hb,fin x' _ (x.heap.size+1) vf' hb (fun _=>⟨h1, ?_⟩) (by rw [if_neg e];rfl)⟩
  rintro k (q|q|q|q)
  ·omega
  ·have:=h2 k q;omega
  ·simp [nilS,Value.ownBlock] at q
  ·simp [nilS,Value.ownBlock] at q
theorem tNew_row (h:FrIn B u n r c own i j tg vg vt gb vf tk tt) (hn:n≤8) (hrb:ringB (r:Int)=true) (hc:c<n) (hj:j<n) (ho:own<65536) (hg:Glob u) (hx:Below u.heap.size u x):
  Calls Tryz.prog 46 #[spanV n r j c, .int .i64 c, .int .i64 j, .int .i64 own] x fun e x'=>∃a,e= .returned (.pointer a)∧Below x.heap.size x x'∧∃A7 q7 w7,(Builtin.append_ #[67,67] 67 #[vt, .slice (some ⟨x'.heap.size,0,none⟩) 1 1]).run Tryz.prog (x'.alloc (.cells #[.pointer a] 111))= .ok (.slice A7 (j+1) q7) w7∧
   (x'.alloc (.cells #[.pointer a] 111)).grownBy w7 vt.ownBlock∧∃tg' tk' tt',FrIn B w7 n r c own i (j+1) tg' vg (.slice A7 (j+1) q7) gb vf tk' tt':=by
 have hgx:=hg.fresh hx
 have fin:∀(x':World) (a:Option Addr) (g t:Nat),Below x.heap.size x x'→(j≠c→TakAt x' g t nilS (rawTak (chanBase n r j c) r c j own)∧∀k,TakF g t nilS k→u.heap.size≤k)→(Value.pointer a=if j=c then .pointer none else ptr g)→
   ∃A7 q7 w7,(Builtin.append_ #[67,67] 67 #[vt, .slice (some ⟨x'.heap.size,0,none⟩) 1 1]).run Tryz.prog (x'.alloc (.cells #[.pointer a] 111))= .ok (.slice A7 (j+1) q7) w7∧
   (x'.alloc (.cells #[.pointer a] 111)).grownBy w7 vt.ownBlock∧∃tg' tk' tt',FrIn B w7 n r c own i (j+1) tg' vg (.slice A7 (j+1) q7) gb vf tk' tt':=by
  intro x' a g t hb h1 h2
  have hux:Below u.heap.size u x':=hx.trans (hb.mono hx.size)
  have hrow:=(h.fresh hux).taks
  obtain ⟨A7,q7,w7,e1,e2,e3,e4⟩:=tp_push x' vt j _ (by omega) hrow a
  exact ⟨A7,q7,w7,e1,e3,_,_,_,h.addT hux h1 h2 e2 e3 e4⟩
 by_cases e:j=c
 ·have es:spanV n r j c= .agg #[.int .i64 0, .int .i64 0]:=by unfold spanV;rw [if_pos e]
  rw [es]
  refine (tNew_nil c j own x hgx).mono ?_
  rintro e' x' ⟨rfl,hb⟩
  exact ⟨none,rfl,hb,fin x' none 0 0 hb (fun q=>absurd e q) (by rw [if_pos e])⟩
 ·have es:spanV n r j c= .agg #[.int .i64 (chanBase n r j c), .int .i64 r]:=by unfold spanV;rw [if_neg e]
  rw [es]
  obtain ⟨hr0,hr1⟩:=ringB_nat hrb
  refine (tNew_any (chanBase n r j c) r c j own (base_lt hn hr1 hj hc) hrb (by omega) (by omega) (Ne.symm e) ho x hgx).mono ?_
  rintro e' x' ⟨tk',tt',rfl,h1,h2,h3,hb⟩
  have hsx:=hx.size
  refine ⟨_,rfl,hb,fin x' _ tk' tt' hb (fun _=>⟨h1, ?_⟩) (by rw [if_neg e];rfl)⟩
  rintro k (q|q|q)
  ·omega
  ·omega
  ·simp [nilS,Value.ownBlock] at q
end
structure FW (w u:World) (n r m:Nat) (vg vt:Value):Prop where
 p:Blk u w.heap.size 23 [.int .i64 n, .int .i64 r, .int .i64 m]
 z:Blk u (w.heap.size+1) 71 [nilS,nilS, .nilIface, .int .i64 0]
 k:Blk u (w.heap.size+2) 71 [vg,vt, .nilIface, .int .i64 0]
 g:Glob u
 b:Below w.heap.size w u
 big:2≤w.heap.size
section
variable {w u u':World} {n r m c own i j:Nat} {vg vt:Value} {tg:Nat→Tag} {gb:Nat→Nat} {vf:Nat→Value} {tk tt:Nat→Nat}
theorem FW.keep {F:Nat→Prop} (h:FW w u n r m vg vt) (hk:Keep F u u') (hF:∀k,F k→w.heap.size+3≤k):FW w u' n r m vg vt:=by
 have hb:=h.big
 refine ⟨h.p.keep hk (fun q=> ?_),h.z.keep hk (fun q=> ?_),h.k.keep hk (fun q=> ?_),h.g.keep hk (fun q=> ?_) (fun q=> ?_), ?_,hb⟩
 ·have:=hF _ q;omega
 ·have:=hF _ q;omega
 ·have:=hF _ q;omega
 ·have:=hF _ q;omega
 ·have:=hF _ q;omega
 ·refine h.b.trans (Keep.toBelow (hk.mono (fun k _ q=> ?_)) h.b.size)
  have:=hF _ q;omega
theorem FW.fresh (h:FW w u n r m vg vt) (hb:Below u.heap.size u u'):FW w u' n r m vg vt:=h.keep (Keep.ofFresh hb (B:=0) (F:=fun _=>False)) (fun _ q=>q.elim)
theorem FW.set0 (h:FW w u n r m vg vt) (v:Value):FW w (u.setCell ⟨w.heap.size+2,0,none⟩ v) n r m v vt:=
 ⟨h.p.far (p:=⟨w.heap.size+2,0,none⟩) (by show w.heap.size≠w.heap.size+2;omega) _,h.z.far (p:=⟨w.heap.size+2,0,none⟩) (by show w.heap.size+1≠w.heap.size+2;omega) _,h.k.set 0 v,
  h.g.keep (F:=fun k=>k=w.heap.size+2) (Keep.setCell (p:=⟨w.heap.size+2,0,none⟩) (Keep.refl (fun k=>k=w.heap.size+2) u) (fun _=>rfl) v) (by have:=h.big;omega) (by have:=h.big;omega),h.b.setCell (p:=⟨w.heap.size+2,0,none⟩) (by show w.heap.size≤w.heap.size+2;omega) _,h.big⟩
theorem FW.set1 (h:FW w u n r m vg vt) (v:Value):FW w (u.setCell ⟨w.heap.size+2,1,none⟩ v) n r m vg v:=
 ⟨h.p.far (p:=⟨w.heap.size+2,1,none⟩) (by show w.heap.size≠w.heap.size+2;omega) _,h.z.far (p:=⟨w.heap.size+2,1,none⟩) (by show w.heap.size+1≠w.heap.size+2;omega) _,h.k.set 1 v,
  h.g.keep (F:=fun k=>k=w.heap.size+2) (Keep.setCell (p:=⟨w.heap.size+2,1,none⟩) (Keep.refl (fun k=>k=w.heap.size+2) u) (fun _=>rfl) v) (by have:=h.big;omega) (by have:=h.big;omega),h.b.setCell (p:=⟨w.heap.size+2,1,none⟩) (by show w.heap.size≤w.heap.size+2;omega) _,h.big⟩
theorem FrIn.far (h:FrIn (w.heap.size+3) u n r c own i j tg vg vt gb vf tk tt) (o:Nat) (v:Value):FrIn (w.heap.size+3) (u.setCell ⟨w.heap.size+2,o,none⟩ v) n r c own i j tg vg vt gb vf tk tt:=
 h.keep (F:=fun k=>k=w.heap.size+2) (Keep.setCell (p:=⟨w.heap.size+2,o,none⟩) (Keep.refl (fun k=>k=w.heap.size+2) u) (fun _=>rfl) v) (fun k q e=>by omega)
theorem gStage {s1 s2:Nat} {b1 r1 b2 r2:Int} (f:FW w u n r m vg vt) (h:FrIn (w.heap.size+3) u n r c own i j tg vg vt gb vf tk tt) (h1:Blk u s1 106 [.int .i64 b1, .int .i64 r1]) (h2:Blk u s2 106 [.int .i64 b2, .int .i64 r2])
  (hs:spanV n r c i= .agg #[.int .i64 b1, .int .i64 r1]) (hn:n≤8) (hrb:ringB (r:Int)=true) (hc:c<n) (hi:i<n) (ho:own<65536):
  Calls Tryz.prog 45 #[.agg #[.int .i64 b1, .int .i64 r1], .int .i64 c, .int .i64 i, .int .i64 own] u.drew fun e x'=>∃a,e= .returned (.pointer a)∧∃A7 q7 w7,(Builtin.append_ #[66,66] 66 #[vg, .slice (some ⟨x'.heap.size,0,none⟩) 1 1]).run Tryz.prog (x'.alloc (.cells #[.pointer a] 109))= .ok (.slice A7 (i+1) q7) w7∧
   (x'.cell? ⟨w.heap.size+2,0,none⟩=some vg∧x'.cell? ⟨s1,0,none⟩=some (.int .i64 b1)∧x'.cell? ⟨s1,1,none⟩=some (.int .i64 r1))∧(x'.alloc (.cells #[.pointer a] 109)).cell? ⟨w.heap.size+2,0,none⟩=some vg∧w7.cell? ⟨w.heap.size+2,0,none⟩=some vg∧w7.frozen? ⟨w.heap.size+2,0,none⟩=false∧
   (FW w (w7.setCell ⟨w.heap.size+2,0,none⟩ (.slice A7 (i+1) q7)) n r m (.slice A7 (i+1) q7) vt∧Blk (w7.setCell ⟨w.heap.size+2,0,none⟩ (.slice A7 (i+1) q7)) s2 106 [.int .i64 b2, .int .i64 r2]∧∃tg' gb' vf',FrIn (w.heap.size+3) (w7.setCell ⟨w.heap.size+2,0,none⟩ (.slice A7 (i+1) q7)) n r c own (i+1) j tg' (.slice A7 (i+1) q7) vt gb' vf' tk tt):=by
 have hd:Below u.heap.size u u.drew:=(Below.refl _ _).drew
 rw [←hs]
 refine (gNew_row h hn hrb hc hi ho f.g hd).mono ?_
 rintro e x' ⟨a,rfl,hb,A7,q7,w7,hr,hg,tg',gb',vf',hF⟩
 have hux:Below u.heap.size u x':=hd.trans hb
 have f1:=f.fresh hux
 have fa:=f1.fresh ((Below.refl _ _).alloc (Nat.le_refl _) (.cells #[.pointer a] 109))
 have f7:=fa.keep (Keep.grown hg) (fun k q=>(h.rows k (.inl q)).1)
 have d1:=h1.keep (Keep.ofFresh hux (B:=0) (F:=fun _=>False)) (fun q=>q)
 have d2:=h2.keep (Keep.ofFresh hux (B:=0) (F:=fun _=>False)) (fun q=>q)
 have d2a:=d2.alloc (.cells #[.pointer a] 109)
 have d27:=d2a.keep (Keep.grown hg) (fun q=>by
  obtain ⟨cur,hcur⟩:=(h.fresh hux).givs.typed s2 q
  exact absurd (hcur.same d2).1 (by decide))
 refine ⟨a,rfl,A7,q7,w7,hr,⟨f1.k.cell 0,d1.cell 0,d1.cell 1⟩,fa.k.cell 0,f7.k.cell 0,f7.k.free 0,f7.set0 _,d27.far (p:=⟨w.heap.size+2,0,none⟩) (d27.ne f7.k (by decide)) _,tg',gb',vf',hF.far 0 _⟩
theorem tStage {s2:Nat} {b2 r2:Int} (f:FW w u n r m vg vt) (h:FrIn (w.heap.size+3) u n r c own i j tg vg vt gb vf tk tt) (h2:Blk u s2 106 [.int .i64 b2, .int .i64 r2])
  (hs:spanV n r j c= .agg #[.int .i64 b2, .int .i64 r2]) (hn:n≤8) (hrb:ringB (r:Int)=true) (hc:c<n) (hj:j<n) (ho:own<65536):
  Calls Tryz.prog 46 #[.agg #[.int .i64 b2, .int .i64 r2], .int .i64 c, .int .i64 j, .int .i64 own] u.drew fun e x'=>∃a,e= .returned (.pointer a)∧∃A7 q7 w7,(Builtin.append_ #[67,67] 67 #[vt, .slice (some ⟨x'.heap.size,0,none⟩) 1 1]).run Tryz.prog (x'.alloc (.cells #[.pointer a] 111))= .ok (.slice A7 (j+1) q7) w7∧
   (x'.cell? ⟨w.heap.size+2,1,none⟩=some vt∧x'.cell? ⟨s2,0,none⟩=some (.int .i64 b2)∧x'.cell? ⟨s2,1,none⟩=some (.int .i64 r2))∧(x'.alloc (.cells #[.pointer a] 111)).cell? ⟨w.heap.size+2,1,none⟩=some vt∧w7.cell? ⟨w.heap.size+2,1,none⟩=some vt∧w7.frozen? ⟨w.heap.size+2,1,none⟩=false∧
   (FW w (w7.setCell ⟨w.heap.size+2,1,none⟩ (.slice A7 (j+1) q7)) n r m vg (.slice A7 (j+1) q7)∧∃tg' tk' tt',FrIn (w.heap.size+3) (w7.setCell ⟨w.heap.size+2,1,none⟩ (.slice A7 (j+1) q7)) n r c own i (j+1) tg' vg (.slice A7 (j+1) q7) gb vf tk' tt'):=by
 have hd:Below u.heap.size u u.drew:=(Below.refl _ _).drew
 rw [←hs]
 refine (tNew_row h hn hrb hc hj ho f.g hd).mono ?_
 rintro e x' ⟨a,rfl,hb,A7,q7,w7,hr,hg,tg',tk',tt',hF⟩
 have hux:Below u.heap.size u x':=hd.trans hb
 have f1:=f.fresh hux
 have fa:=f1.fresh ((Below.refl _ _).alloc (Nat.le_refl _) (.cells #[.pointer a] 111))
 have f7:=fa.keep (Keep.grown hg) (fun k q=>(h.rows k (.inr q)).1)
 have d2:=h2.keep (Keep.ofFresh hux (B:=0) (F:=fun _=>False)) (fun q=>q)
 refine ⟨a,rfl,A7,q7,w7,hr,⟨f1.k.cell 1,d2.cell 0,d2.cell 1⟩,fa.k.cell 1,f7.k.cell 1,f7.k.free 1,f7.set1 _,tg',tk',tt',hF.far 1 _⟩
end
end Go.Proofs.YtaaffebnajjfhaaGreatDoor.T
