/- Texts of this proof, merged: Sbuf, Ram, Bus, Bus2, Bus3. -/
import Derived.Test.YtaaffebnajjfhaaGreatDoorH01
import Derived.Test.YtaaffebnajjfhaaGreatDoorH02
import Derived.StillTailTactics
namespace Go.Proofs.YtaaffebnajjfhaaGreatDoor.T
set_option linter.unusedVariables false
set_option linter.unusedSimpArgs false
set_option linter.unusedSectionVars false
open Go.RowKit
def wordy (l:List (Nat × Nat)):Prop:=∀x∈l,x.1<65536∧x.2<65536
structure BufAt (w:World) (b:Nat) (v:Value) (most:Nat) (l:List (Nat × Nat)):Prop where
 blk:Blk w b 186 [.int .i64 most,v]
 row:Row w 197 1 v l.length (l.map cpx)
 wrd:wordy l
 most1:1≤most
 most2:most≤16
 len:l.length≤most
theorem BufAt.keep {w w':World} {b most:Nat} {v:Value} {l:List (Nat × Nat)} {F:Nat→Prop} (h:BufAt w b v most l) (hk:Keep F w w') (h1: ¬F b) (h2:∀k,v.ownBlock=some k→ ¬F k):BufAt w' b v most l:=
 ⟨h.blk.keep hk h1,h.row.keep hk h2,h.wrd,h.most1,h.most2,h.len⟩
theorem under184:Tryz.prog.underlying 184=some (.slice 197):=by kernel_rfl
theorem info197:(Tryz.prog.info? 197).map (fun i=>(i.zero,i.size,i.bytes))=some (some (.complex .f64 0 0),1,16):=by kernel_rfl
theorem blen_any (b most:Nat) (v:Value) (l:List (Nat × Nat)) (w:World) (h:BufAt w b v most l):
  Calls Tryz.prog 108 #[.pointer (some ⟨b,0,none⟩)] w fun e w'=>e= .returned (.int .i64 l.length)∧w=w':=by
 obtain ⟨A,c,rfl,hc,hm⟩:=h.row.slice
 have h1:=h.blk.cell 1
 simp at h1
 go_enter Tryz.func108,Tryz.ntmps108
 go_wp2_with fail
 go_ret
 exact ⟨rfl,rfl⟩
theorem bcap_any (b most:Nat) (v:Value) (l:List (Nat × Nat)) (w:World) (h:BufAt w b v most l):
  Calls Tryz.prog 109 #[.pointer (some ⟨b,0,none⟩)] w fun e w'=>e= .returned (.int .i64 most)∧w=w':=by
 have h1:=h.blk.cell 0
 simp at h1
 go_enter Tryz.func109,Tryz.ntmps109
 go_wp2_with fail
 go_ret
 exact ⟨rfl,rfl⟩
theorem bnew_any (most:Nat) (h1:1≤most) (h2:most≤16) (w:World):
  Calls Tryz.prog 78 #[.int .i64 most] w fun e w'=>e= .returned (.pointer (some ⟨w.heap.size,0,none⟩))∧w'=w.alloc (.cells #[.int .i64 most, .slice none 0 0] 186):=by
 have e1:decide ((most:Int)<1)=false:=by simp;omega
 have e2:decide ((16:Int)<most)=false:=by simp;omega
 go_enter Tryz.func78,Tryz.ntmps78
 go_wp2_with fail
 go_ret
 exact ⟨rfl,rfl⟩
theorem bclear_any (b most:Nat) (v:Value) (l:List (Nat × Nat)) (w:World) (h:BufAt w b v most l):
  Calls Tryz.prog 97 #[.pointer (some ⟨b,0,none⟩)] w fun e w'=>(∃n:Nat,e= .returned (.int .i64 n))∧(∃v',BufAt w' b v' most []∧(v'.ownBlock=v.ownBlock∨v'.ownBlock=none))∧Keep (fun k=>k=b) w w':=by
 have h1:=h.blk.cell 1
 have h2:=h.blk.free 1
 simp at h1
 have hl:=h.len
 have hm:=h.most2
 by_cases h0:l.length=0
 ·have hl0:l= []:=List.eq_nil_of_length_eq_zero h0
  have e1:decide (0<(l.length:Int))=false:=by simp;omega
  go_enter Tryz.func97,Tryz.ntmps97
  go_wp2_with fail
  refine (blen_any b most v l _ h).mono ?_
  rintro e w' ⟨rfl,rfl⟩
  go_wp2_with fail
  go_ret
  exact ⟨⟨0,rfl⟩,⟨v,hl0 ▸ h, .inl rfl⟩,Keep.refl _ _⟩
 ·have e1:decide (0<(l.length:Int))=true:=by simp;omega
  go_enter Tryz.func97,Tryz.ntmps97
  go_wp2_with fail
  refine (blen_any b most v l _ h).mono ?_
  rintro e w' ⟨rfl,rfl⟩
  go_wp2_with fail
  go_ret
  exact ⟨⟨l.length,rfl⟩,⟨_,⟨h.blk.set 1 (.slice none 0 0),Row.nil _ _ _,fun x hx=>by simp at hx,h.most1,h.most2,Nat.zero_le _⟩, .inr rfl⟩,Keep.setCell (F:=fun k=>k=b) (p:=⟨b,1,none⟩) (Keep.refl _ w) (fun _=>rfl) _⟩
theorem bput_any (b most:Nat) (v:Value) (l:List (Nat × Nat)) (a x:Nat) (ha:a<65536) (hx:x<65536) (w:World) (h:BufAt w b v most l) (hlen:l.length<most):
  Calls Tryz.prog 110 #[.pointer (some ⟨b,0,none⟩), .int .i64 a, .int .i64 x] w fun e w'=>e= .returned (.int .i64 0)∧∃v',BufAt w' b v' most (l ++ [(a,x)])∧Keep (fun k=>k=b∨v.ownBlock=some k) w w'∧(v'.ownBlock=v.ownBlock∨∃q,v'.ownBlock=some q∧w.heap.size≤q):=by
 have hbuf:=h
 have h0:=h.blk.cell 0
 have h1:=h.blk.cell 1
 have h2:=h.blk.free 1
 simp at h0 h1
 have hm:=h.most2
 have hb:=h.blk.lt
 have e1:decide (most≤l.length)=false:=by simp;omega
 obtain ⟨A,c,rfl,hc,hcm⟩:=h.row.slice
 go_enter Tryz.func110,Tryz.ntmps110
 go_wp2_with fail
 refine (of_any a x ha hx _).mono ?_
 rintro e w' ⟨rfl,rfl⟩
 have hcpx:cpx (a,x)= .complex .f64 (fl a) (fl x):=rfl
 go_wp2_with fail
 go_region
 go_wp2_with (at_builtin;refine app_list rfl _ _ 184 197 (.complex .f64 0 0) 1 16 rfl under184 info197 rfl (by decide) (.slice A l.length c) l.length (l.map cpx) (hbuf.row.below (((Below.refl _ w).drew).alloc (Nat.le_refl _) _)) ⟨w.heap.size,0,none⟩ 1 1 [.complex .f64 (fl a) (fl x)] rfl rfl rfl (cell_one_new _ _ _) (by intro u hu;rw [List.mem_singleton.1 hu];rfl) (by unfold maxLen;omega) (by omega) ?_;intro v1 w1 hR1 hg1 hat1;have hB1:=hbuf.blk.keep (F:=fun k=>(Value.slice A l.length c).ownBlock=some k) (((Keep.refl _ w).drew.alloc _).trans' (Keep.grown hg1)) (hbuf.row.ne hbuf.blk (by decide));have hs1:=hB1.free 1;have ht1:=hB1.cell 1;simp at ht1;obtain ⟨A1,c1,rfl,hc1,hcm1⟩:=hR1.slice)
 go_ret
 have e2:l.map cpx ++ [Value.complex FloatKind.f64 (fl a) (fl x)]=(l ++ [(a,x)]).map cpx:=by rw [List.map_append];rfl
 have e3:l.length+1=(l ++ [(a,x)]).length:=by rw [List.length_append];rfl
 rw [e2,e3] at hR1
 refine ⟨rfl, .slice A1 (l ++ [(a,x)]).length c1,⟨by rw [←e3];exact hB1.set 1 _,hR1.far hB1 (by decide) 1 _, ?_,hbuf.most1,hm,by rw [←e3];omega⟩, ?_, ?_⟩
 ·intro y hy
  rcases List.mem_append.1 hy with h5|h5
  ·exact hbuf.wrd y h5
  ·rw [List.mem_singleton.1 h5]
   exact ⟨ha,hx⟩
 ·refine Keep.setCell (p:=⟨b,1,none⟩) (((Keep.refl _ w).alloc _).drew.trans (Keep.grown hg1) (fun k _ q=> .inr q)) (fun _=> .inl rfl) _
 ·rw [←e3]
  rcases hat1 with q|⟨d,q,hd⟩
  ·exact .inl q
  ·exact .inr ⟨d,q,by simp at hd;omega⟩
theorem bdrain_none (b most:Nat) (v:Value) (w:World) (h:BufAt w b v most []):
  Calls Tryz.prog 122 #[.pointer (some ⟨b,0,none⟩)] w fun e w'=>e= .returned (.tuple #[.int .i64 0, .int .i64 0, .bool false])∧w=w':=by
 go_enter Tryz.func122,Tryz.ntmps122
 go_wp2_with fail
 refine (blen_any b most v [] _ h).mono ?_
 rintro e w' ⟨rfl,rfl⟩
 go_wp2_with fail
 go_ret3
 exact ⟨rfl,rfl⟩
set_option maxRecDepth 100000 in
theorem bdrain_some (b most:Nat) (v:Value) (x:Nat × Nat) (l:List (Nat × Nat)) (w:World) (h:BufAt w b v most (x :: l)):
  Calls Tryz.prog 122 #[.pointer (some ⟨b,0,none⟩)] w fun e w'=>e= .returned (.tuple #[.int .i64 x.1, .int .i64 x.2, .bool true])∧(∃v',BufAt w' b v' most l∧v'.ownBlock=v.ownBlock)∧Keep (fun k=>k=b) w w':=by
 have hbuf:=h
 have hlen:=h.len
 have hm:=h.most2
 simp only [List.length_cons] at hlen
 obtain ⟨g,off,c,hv,hc,hcm,hcell⟩:=h.row.cells (by simp)
 subst hv
 simp only [List.length_cons] at hcell hc
 have h0:=h.blk.cell 0
 have h1:=h.blk.cell 1
 have h2:=h.blk.free 1
 have hc0:=(hcell 0 (by omega)).1
 simp at h0 h1 hc0
 have HB:=Lib.hid hbuf;clear h hbuf hcell
 have hln:(0:Int)<((l.length+1:Nat):Int):=by omega
 obtain ⟨i0,hi,hzz⟩:=Option.map_eq_some_iff.1 info197
 have hsz:i0.size=1:=by simp only [Prod.mk.injEq] at hzz;exact hzz.2.1
 have hsl:=Row.run_slice3 (P:=Tryz.prog) 184 197 under184 hi (some ⟨g,off,none⟩) (l.length+1) c 1 (l.length+1) (l.length+1) (by omega) (by omega) (by omega)
 have hrow:∀u,Blk u b 186 [.int .i64 most,_]→_:=fun u (hu:Blk u b 186 [.int .i64 most, .slice (some ⟨g,off,none⟩) (x :: l).length c])=>hu
 have hnew:=HB.out.row.sub (l:=1) (h:=l.length+1) (m:=l.length+1) (by omega) (by simp) (by omega) (by omega)
 have hblk:=Row.sub_block g off (l.length+1) 1 (l.length+1-1) (l.length+1-1) 1
 rw [hsz] at hsl
 clear hrow
 generalize (if l.length+1=1 then some (⟨g,off,none⟩:Addr) else (some (⟨g,off,none⟩:Addr)).map (·.add (1*1)))=A' at *
 simp only [Nat.add_sub_cancel] at hsl hnew hblk
 simp at hsl
 have HN:=Lib.hid hnew;clear hnew
 have HK:=Lib.hid hblk;clear hblk
 clear hzz hi hsz
 go_enter Tryz.func122,Tryz.ntmps122
 go_wp2_with fail
 refine (blen_any b most _ (x :: l) _ HB.out).mono ?_
 rintro e w' ⟨rfl,rfl⟩
 go_wp2_with fail
 refine wp_region_still_tail 18 (by kernel_rfl) (by kernel_rfl) ?_
 simp only [List.take_succ_cons,List.take_zero,List.drop_succ_cons,List.drop_zero]
 change wpStill _ _ w.drew _ _ _
 repeat still_step
 refine wpStill_nil ?_
 change wpList _ _ _ _ _ w.drew
 have h2d:w.drew.frozen? ⟨b,1,none⟩=false:=h2
 have h1d:w.drew.cell? ⟨b,1,none⟩=some (.slice (some ⟨g,off,none⟩) (l.length+1) c):=h1
 go_wp2_with fail
 have hw:=HB.out.wrd x (by simp)
 refine (parts_any x hw.1 hw.2 _).mono ?_
 rintro e w' ⟨rfl,rfl⟩
 go_wp2_with fail
 go_ret3
 have hB1:Blk w.drew b 186 [.int .i64 most, .slice (some ⟨g,off,none⟩) (x :: l).length c]:=HB.out.blk
 have hrow:Row w 197 1 (.slice A' l.length l.length) l.length (l.map cpx):=by
  have:=HN.out
  simp only [List.map_cons,Nat.mul_one,List.drop_succ_cons,List.drop_zero] at this
  rwa [List.take_of_length_le (by simp)] at this
 refine ⟨rfl,⟨_,⟨hB1.set 1 _, ?_,fun y hy=>HB.out.wrd y (List.mem_cons_of_mem _ hy),HB.out.most1,hm,by omega⟩,HK.out⟩, ?_⟩
 ·exact Row.far (w:=w.drew) (hrow.below (Below.refl _ w).drew) hB1 (by decide) 1 _
 ·exact Keep.setCell (F:=fun k=>k=b) (p:=⟨b,1,none⟩) (Keep.refl _ w).drew (fun _=>rfl) _
def upd {α : Type} (f:Nat→ α) (a:Nat) (x: α):Nat→ α := fun k=>if k=a then x else f k
theorem upd_same {α : Type} (f:Nat→ α) (a:Nat) (x: α):upd f a x a=x:=if_pos rfl
theorem upd_other {α : Type} (f:Nat→ α) (a k:Nat) (x: α) (h:k≠a):upd f a x k=f k:=if_neg h
def ramCells (W:Nat) (m:Nat→Nat):List Value:=(List.range W).map fun j=> .int .i64 (m j)
theorem ramCells_get (W:Nat) (m:Nat→Nat) (j:Nat) (h:j<W):(ramCells W m)[j]? = some (.int .i64 (m j)):=by
 simp [ramCells,h]
theorem ramCells_set (W:Nat) (m:Nat→Nat) (a x:Nat):(ramCells W m).set a (.int .i64 x)=ramCells W (upd m a x):=by
 apply List.ext_getElem?
 intro j
 rw [List.getElem?_set]
 by_cases hj:j<W
 ·rw [ramCells_get W _ j hj,ramCells_get W _ j hj]
  unfold upd
  by_cases e:a=j
  ·subst e
   rw [if_pos rfl,if_pos (by simp [ramCells,hj]),if_pos rfl]
  ·rw [if_neg e,if_neg (Ne.symm e)]
 ·have h1:(ramCells W m)[j]? = none:=by simp [ramCells];omega
  have h2:(ramCells W (upd m a x))[j]? = none:=by simp [ramCells];omega
  rw [h1,h2]
  split
  ·rw [if_neg (by simp [ramCells];omega)]
  ·rfl
structure RamAt (w:World) (r row W:Nat) (m:Nat→Nat):Prop where
 blk:Blk w r 183 [.slice (some ⟨row,0,none⟩) W W]
 row:Blk w row 3 (ramCells W m)
 most:W≤65536
 wrd:∀j,m j<65536
theorem RamAt.keep {w w':World} {r row W:Nat} {m:Nat→Nat} {F:Nat→Prop} (h:RamAt w r row W m) (hk:Keep F w w') (h1: ¬F r) (h2: ¬F row):RamAt w' r row W m:=
 ⟨h.blk.keep hk h1,h.row.keep hk h2,h.most,h.wrd⟩
theorem rwrong_ok (r row W:Nat) (m:Nat→Nat) (a:Nat) (ha:a<W) (w:World) (h:RamAt w r row W m):
  Calls Tryz.prog 133 #[.pointer (some ⟨r,0,none⟩), .int .i64 a, .int .i64 1] w fun e w'=>e= .returned (.int .i64 0)∧w=w':=by
 have h0:=h.blk.cell 0
 simp at h0
 have hm:=h.most
 have e1:decide ((a:Int)<0)=false:=by simp
 have e2:decide ((W:Int)<(a:Int))=false:=by simp;omega
 have e2':decide (W<a)=false:=by simp;omega
 have hs:IntKind.i64.wrap ((W:Int)-(a:Int))=(W:Int)-(a:Int):=by rw [IntKind.wrap_i64];omega
 have e3:decide ((W:Int)-(a:Int)<1)=false:=by simp;omega
 go_enter Tryz.func133,Tryz.ntmps133
 go_wp2_with fail
 go_ret
 exact ⟨rfl,rfl⟩
theorem rload_any (r row W:Nat) (m:Nat→Nat) (a:Nat) (ha:a<W) (w:World) (h:RamAt w r row W m):
  Calls Tryz.prog 128 #[.pointer (some ⟨r,0,none⟩), .int .i64 a] w fun e w'=>e= .returned (.tuple #[.int .i64 (m a), .int .i64 0])∧w=w':=by
 have h0:=h.blk.cell 0
 simp at h0
 have hm:=h.most
 have hc:=h.row.cell a
 rw [ramCells_get W m a ha] at hc
 have ha0:(0:Int)≤(a:Int):=by omega
 have ha1:(a:Int)<(W:Int):=by omega
 have HR:=Lib.hid h;clear h
 go_enter Tryz.func128,Tryz.ntmps128
 go_wp2_with fail
 refine (rwrong_ok r row W m a ha _ HR.out).mono ?_
 rintro e w' ⟨rfl,rfl⟩
 go_wp2_with fail
 go_ret2
 exact ⟨rfl,rfl⟩
theorem rfill_one (r row W:Nat) (m:Nat→Nat) (a x:Nat) (ha:a<W) (hx:x<65536) (w:World) (h:RamAt w r row W m):
  Calls Tryz.prog 132 #[.pointer (some ⟨r,0,none⟩), .int .i64 a, .int .i64 1, .int .i64 x] w fun e w'=>e= .returned (.int .i64 0)∧RamAt w' r row W (upd m a x)∧Keep (fun k=>k=row) w w':=by
 have hm:=h.most
 have e1:decide ((x:Int)<0)=false:=by simp
 have e2:decide ((65535:Int)<(x:Int))=false:=by simp;omega
 have ha0:(0:Int)≤(a:Int):=by omega
 have ha1:(a:Int)<(W:Int):=by omega
 have hne:r≠row:=h.blk.ne h.row (by decide)
 have HR:=Lib.hid h;clear h
 go_enter Tryz.func132,Tryz.ntmps132
 go_wp2_with fail
 refine (rwrong_ok r row W m a ha _ HR.out).mono ?_
 rintro e w' ⟨rfl,rfl⟩
 go_wp2_with fail
 go_loopw [25] (fun j u=>(j= .int .i64 0∧u=w)∨(j= .int .i64 1∧RamAt u r row W (upd m a x)∧Keep (fun k=>k=row) w u))
  (fun j _=>1-(intOf j).toNat)
 case atStart=>exact .inl ⟨rfl,rfl⟩
 case round=>
  rcases hrel with ⟨rfl,rfl⟩|⟨rfl,hR,hK⟩
  ·have h0:=HR.out.blk.cell 0
   simp at h0
   have hf:=HR.out.row.free a
   have hc:=HR.out.row.cell a
   rw [ramCells_get W m a ha] at hc
   go_wp2_with fail
   go_roundw
   case rel=>
    refine .inr ⟨by go_num,⟨HR.out.blk.far (p:=⟨row,a,none⟩) hne _, ?_,hm,fun j=> ?_⟩,Keep.setCell (F:=fun k=>k=row) (p:=⟨row,a,none⟩) (Keep.refl _ _) (fun _=>rfl) _⟩
    ·have:=HR.out.row.set a (.int .i64 x)
     rwa [ramCells_set] at this
    ·unfold upd
     split
     ·exact hx
     ·exact HR.out.wrd j
   case measure=>simp [intOf]
  ·have HR2:=Lib.hid hR
   clear hR
   go_wp2_with fail
   go_ret
   exact ⟨rfl,HR2.out,hK⟩
theorem rstore_any (r row W:Nat) (m:Nat→Nat) (a x:Nat) (ha:a<W) (hx:x<65536) (w:World) (h:RamAt w r row W m):
  Calls Tryz.prog 123 #[.pointer (some ⟨r,0,none⟩), .int .i64 a, .int .i64 x] w fun e w'=>e= .returned (.int .i64 0)∧RamAt w' r row W (upd m a x)∧Keep (fun k=>k=row) w w':=by
 have HR:=Lib.hid h;clear h
 go_enter Tryz.func123,Tryz.ntmps123
 go_wp2_with fail
 refine (rfill_one r row W m a x ha hx _ HR.out).mono ?_
 rintro e w' ⟨rfl,hR,hK⟩
 have HR2:=Lib.hid hR
 clear hR
 go_wp2_with fail
 go_ret
 exact ⟨rfl,HR2.out,hK⟩
structure BusL where
 bus:Nat
 ram:Nat
 row:Nat
 bufs:Nat
 pcs:List Value
 cap:Nat
 buf:Nat→Nat
structure BusAt (w:World) (L:BusL) (n W most:Nat) (vs:Nat→Value) (m:Nat→Nat) (q:Nat→List (Nat × Nat)):Prop where
 bus:Blk w L.bus 141 [.pointer (some ⟨L.ram,0,none⟩), .slice (some ⟨L.bufs,0,none⟩) n L.cap]
 ram:RamAt w L.ram L.row W m
 bufs:Blk w L.bufs 137 L.pcs
 pcs:∀i,i<n→L.pcs[i]? = some (.pointer (some ⟨L.buf i,0,none⟩))
 buf:∀i,i<n→BufAt w (L.buf i) (vs i) most (q i)
 inj:∀i j,i<n→j<n→L.buf i=L.buf j→i=j
 dis:∀i j,i<n→j<n→i≠j→∀k,(vs i).ownBlock=some k→(vs j).ownBlock≠some k
 adr:∀i,i<n→∀x∈q i,x.1<W
 n8:n≤8
def BusF (L:BusL) (vs:Nat→Value) (c:Nat) (k:Nat):Prop:=k=L.row∨k=L.buf c∨(vs c).ownBlock=some k
theorem BusAt.keep {w w':World} {L:BusL} {n W most:Nat} {vs:Nat→Value} {m:Nat→Nat} {q:Nat→List (Nat × Nat)} {F:Nat→Prop} (h:BusAt w L n W most vs m q) (hk:Keep F w w')
  (h1: ¬F L.bus) (h2: ¬F L.ram) (h3: ¬F L.row) (h4: ¬F L.bufs) (h5:∀i,i<n→ ¬F (L.buf i)) (h6:∀i,i<n→∀k,(vs i).ownBlock=some k→ ¬F k):BusAt w' L n W most vs m q:=
 ⟨h.bus.keep hk h1,h.ram.keep hk h2 h3,h.bufs.keep hk h4,h.pcs,fun i hi=>(h.buf i hi).keep hk (h5 i hi) (h6 i hi),h.inj,h.dis,h.adr,h.n8⟩
theorem BusAt.fresh {w w':World} {L:BusL} {n W most:Nat} {vs:Nat→Value} {m:Nat→Nat} {q:Nat→List (Nat × Nat)} (h:BusAt w L n W most vs m q) (hk:Below w.heap.size w w'):BusAt w' L n W most vs m q:=
 h.keep (F:=fun _=>False) ⟨hk.os,hk.tape,hk.output,hk.size,fun k hk' _=>hk.block k hk'⟩ (fun q=>q) (fun q=>q) (fun q=>q) (fun q=>q) (fun _ _ q=>q) (fun _ _ _ _ q=>q)
theorem BusAt.turn {w w':World} {L:BusL} {n W most:Nat} {vs:Nat→Value} {m:Nat→Nat} {q:Nat→List (Nat × Nat)} (h:BusAt w L n W most vs m q) {c:Nat} (hc:c<n) (hk:Keep (BusF L vs c) w w')
  {m':Nat→Nat} {v':Value} {l':List (Nat × Nat)} (hr:RamAt w' L.ram L.row W m') (hb:BufAt w' (L.buf c) v' most l') (hv:∀k,v'.ownBlock=some k→(vs c).ownBlock=some k∨w.heap.size≤k) (ha:∀x∈l',x.1<W):
  BusAt w' L n W most (upd vs c v') m' (upd q c l'):=by
 have hb0:=h.buf c hc
 have nbuf:∀ {b:Nat} {ty:TypeId} {cs:List Value},Blk w b ty cs→ty≠3→ty≠186→ty≠197→ ¬BusF L vs c b:=by
  intro b ty cs hB t1 t2 t3 hF
  rcases hF with rfl|rfl|hF
  ·exact t1 (hB.same h.ram.row).1
  ·exact t2 (hB.same hb0.blk).1
  ·exact hb0.row.ne hB (Ne.symm t3) hF
 refine ⟨h.bus.keep hk (nbuf h.bus (by decide) (by decide) (by decide)),hr,h.bufs.keep hk (nbuf h.bufs (by decide) (by decide) (by decide)),h.pcs,fun i hi=> ?_,h.inj,fun i j hi hj hij k hik hjk=> ?_,fun i hi x hx=> ?_,h.n8⟩
 ·by_cases e:i=c
  ·subst e
   rw [upd_same,upd_same]
   exact hb
  ·rw [upd_other _ _ _ _ e,upd_other _ _ _ _ e]
   refine (h.buf i hi).keep hk (fun hF=> ?_) (fun k hik hF=> ?_)
   ·rcases hF with hF|hF|hF
    ·exact absurd hF ((h.buf i hi).blk.ne h.ram.row (by decide))
    ·exact e (h.inj i c hi hc hF)
    ·exact hb0.row.ne (h.buf i hi).blk (by decide) hF
   ·rcases hF with rfl|rfl|hF
    ·exact (h.buf i hi).row.ne h.ram.row (by decide) hik
    ·exact (h.buf i hi).row.ne hb0.blk (by decide) hik
    ·exact h.dis i c hi hc e k hik hF
 ·by_cases ei:i=c
  ·subst ei
   rw [upd_same] at hik
   rw [upd_other _ _ _ _ (Ne.symm hij)] at hjk
   rcases hv k hik with hv|hv
   ·exact h.dis i j hi hj hij k hv hjk
   ·have:=(h.buf j hj).row.lt k hjk;omega
  ·rw [upd_other _ _ _ _ ei] at hik
   by_cases ej:j=c
   ·subst ej
    rw [upd_same] at hjk
    rcases hv k hjk with hv|hv
    ·exact h.dis i j hi hj hij k hik hv
    ·have:=(h.buf i hi).row.lt k hik;omega
   ·rw [upd_other _ _ _ _ ej] at hjk
    exact h.dis i j hi hj hij k hik hjk
 ·by_cases ei:i=c
  ·subst ei
   rw [upd_same] at hx
   exact ha x hx
  ·rw [upd_other _ _ _ _ ei] at hx
   exact h.adr i hi x hx
theorem BusAt.id {w:World} {L:BusL} {n W most:Nat} {vs:Nat→Value} {m:Nat→Nat} {q:Nat→List (Nat × Nat)} (h:BusAt w L n W most vs m q) (c:Nat):BusAt w L n W most (upd vs c (vs c)) m (upd q c (q c)):=by
 have e1:upd vs c (vs c)=vs:=by funext k;unfold upd;split<;>simp_all
 have e2:upd q c (q c)=q:=by funext k;unfold upd;split<;>simp_all
 rw [e1,e2]
 exact h
def Enters (g:Nat):Prop:=∀args w,(callFunc g args).run Tryz.prog w= .ok (.enter g args) w
theorem enters {g:Nat} {fn:Func} {c:Code} (hf:Tryz.prog.funcs[g]? = some fn) (hname:(fn.name == "runtime.NumGoroutine")=false) (hb:fn.body=some c):Enters g:=by
 intro args w
 have h1:fn.name≠ "runtime.NumGoroutine" := by simpa using hname
 simp [callFunc,hf,h1,hb]
set_option maxRecDepth 100000 in
theorem ask_any (L:BusL) (n W most:Nat) (vs:Nat→Value) (m:Nat→Nat) (q:Nat→List (Nat × Nat)) (c:Nat) (hc:c<n) (g:Nat) (caps:Array Value) (R:Int→World→Prop) (w:World) (h:BusAt w L n W most vs m q) (hen:Enters g)
  (hdo:Calls Tryz.prog g (#[.pointer (some ⟨L.buf c,0,none⟩)]++caps) w fun e w'=>∃r,e= .returned (.int .i64 r)∧R r w'):
  Calls Tryz.prog 87 #[.pointer (some ⟨L.bus,0,none⟩), .int .i64 c, .func (.func g) #[] caps] w fun e w'=>∃r,e= .returned (.int .i64 r)∧R r w':=by
 have h1:=h.bus.cell 1
 have h2:=h.bufs.cell c
 rw [h.pcs c hc] at h2
 simp at h1
 have e1:decide ((c:Int)<0)=false:=by simp
 have e2:decide ((n:Int)≤(c:Int))=false:=by simp;omega
 have e3:decide (n≤c)=false:=by simp;omega
 have hc0:(0:Int)≤(c:Int):=by omega
 have hc1:(c:Int)<(n:Int):=by omega
 have HB:=Lib.hid h;clear h
 have HD:=Lib.hid hdo;clear hdo
 go_enter Tryz.func87,Tryz.ntmps87
 go_wp2_with fail
 rw [hen,Oper.upon_enter]
 refine HD.out.mono ?_
 rintro e w' ⟨r,rfl,hR⟩
 have HR:=Lib.hid hR;clear hR
 go_wp2_with fail
 go_ret
 exact ⟨r,rfl,HR.out⟩
theorem upd_upd {α : Type} (f:Nat→ α) (a:Nat) (x y: α):upd (upd f a x) a y=upd f a y:=by
 funext k;unfold upd;split<;>rfl
def applyAll (m:Nat→Nat) (l:List (Nat × Nat)):Nat→Nat:=l.foldl (fun m x=>upd m x.1 x.2) m
def drM (m:Nat→Nat):List (Nat × Nat)→Nat→Nat
 | []=>m
 | x :: _=>upd m x.1 x.2
theorem res_ct {fn:Func} {p u:Tmp} {ty:TypeId} {d:TypeDesc} (h:fn.results= #[.cell p ty, .tmp u]) (hd:(match d with | .struct _ | .array _ _=>true|_=>false)=false) (hu:Tryz.prog.underlying ty=some d) (tmps:Array Value) (w:World) (b:Nat) (v:Value)
  (hp:tmps.getD p undef= .pointer (some ⟨b,0,none⟩)) (hc:w.cell? ⟨b,0,none⟩=some v):(results fn tmps).run Tryz.prog w= .ok (.tuple #[v,tmps.getD u undef]) w:=by
 rw [results_cell_tmp h,hp]
 have h1:(loadVar ty ⟨b,0,none⟩).run Tryz.prog w= .ok v w:=by
  unfold loadVar
  have:(isAgg ty).run Tryz.prog w= .ok false w:=by
   cases d<;>first|(simp at hd;done)|simp [isAgg,run_underlying hu]
  simp [Sem.run_bind,this,load,hc,Result.andThen,Sem.run]
 simp [asAddr,h1,Result.andThen]
def BusTo (w:World) (L:BusL) (n W most:Nat) (vs:Nat→Value) (q:Nat→List (Nat × Nat)) (c:Nat) (m':Nat→Nat) (l':List (Nat × Nat)) (w':World):Prop:=
 ∃v',BusAt w' L n W most (upd vs c v') m' (upd q c l')∧Keep (BusF L vs c) w w'∧∀k,v'.ownBlock=some k→(vs c).ownBlock=some k∨w.heap.size≤k
theorem BusTo.refl {w:World} {L:BusL} {n W most:Nat} {vs:Nat→Value} {m:Nat→Nat} {q:Nat→List (Nat × Nat)} (h:BusAt w L n W most vs m q) (c:Nat):BusTo w L n W most vs q c m (q c) w:=
 ⟨vs c,h.id c,Keep.refl _ _,fun k hk=> .inl hk⟩
theorem BusTo.mk {w w':World} {L:BusL} {n W most:Nat} {vs:Nat→Value} {m m':Nat→Nat} {q:Nat→List (Nat × Nat)} {c:Nat} {l':List (Nat × Nat)} {v':Value} (h:BusAt w L n W most vs m q) (hc:c<n) (hk:Keep (BusF L vs c) w w')
  (hr:RamAt w' L.ram L.row W m') (hb:BufAt w' (L.buf c) v' most l') (hv:∀k,v'.ownBlock=some k→(vs c).ownBlock=some k∨w.heap.size≤k) (ha:∀x∈l',x.1<W):BusTo w L n W most vs q c m' l' w':=
 ⟨v',h.turn hc hk hr hb hv ha,hk,hv⟩
theorem BusTo.step {w w1 w2:World} {L:BusL} {n W most:Nat} {vs:Nat→Value} {q:Nat→List (Nat × Nat)} {c:Nat} {m2:Nat→Nat} {l1 l2:List (Nat × Nat)} {v1:Value} (k1:Keep (BusF L vs c) w w1)
  (o1:∀k,v1.ownBlock=some k→(vs c).ownBlock=some k∨w.heap.size≤k) (g:BusTo w1 L n W most (upd vs c v1) (upd q c l1) c m2 l2 w2):BusTo w L n W most vs q c m2 l2 w2:=by
 obtain ⟨v2,h2,k2,o2⟩:=g
 rw [upd_upd,upd_upd] at h2
 rw [upd_same] at o2
 refine ⟨v2,h2,k1.trans k2 (fun k hk hF=> ?_),fun k hk=> ?_⟩
 ·rcases hF with hF|hF|hF
  ·exact .inl hF
  ·exact .inr (.inl hF)
  ·rw [upd_same] at hF
   rcases o1 k hF with q|q
   ·exact .inr (.inr q)
   ·omega
 ·rcases o2 k hk with q|q
  ·exact o1 k q
  ·exact .inr (Nat.le_trans k1.size q)
theorem BusAt.far {w:World} {L:BusL} {n W most:Nat} {vs:Nat→Value} {m:Nat→Nat} {q:Nat→List (Nat × Nat)} (h:BusAt w L n W most vs m q) {b:Nat} {ty:TypeId} {cs:List Value} (hb:Blk w b ty cs)
  (t1:ty≠141) (t2:ty≠183) (t3:ty≠137) (t4:ty≠186) (t5:ty≠197) (hr:b≠L.row) (j:Nat) (u:Value):BusAt (w.setCell ⟨b,j,none⟩ u) L n W most vs m q:=by
 have hk:Keep (fun k=>k=b) w (w.setCell ⟨b,j,none⟩ u):=Keep.setCell (F:=fun k=>k=b) (p:=⟨b,j,none⟩) (Keep.refl _ _) (fun _=>rfl) _
 exact h.keep hk (fun e=>h.bus.ne hb (Ne.symm t1) e) (fun e=>h.ram.blk.ne hb (Ne.symm t2) e) (fun e=>hr e.symm) (fun e=>h.bufs.ne hb (Ne.symm t3) e)
  (fun i hi e=>(h.buf i hi).blk.ne hb (Ne.symm t4) e) (fun i hi k hk e=>(h.buf i hi).row.ne hb (Ne.symm t5) (by rw [hk,e]))
theorem BusTo.far {w w':World} {L:BusL} {n W most:Nat} {vs:Nat→Value} {q:Nat→List (Nat × Nat)} {c:Nat} {m':Nat→Nat} {l':List (Nat × Nat)} (h:BusTo w L n W most vs q c m' l' w') {b:Nat} {ty:TypeId} {cs:List Value} (hb:Blk w' b ty cs)
  (t1:ty≠141) (t2:ty≠183) (t3:ty≠137) (t4:ty≠186) (t5:ty≠197) (hr:b≠L.row) (hw:w.heap.size≤b) (j:Nat) (u:Value):BusTo w L n W most vs q c m' l' (w'.setCell ⟨b,j,none⟩ u):=by
 obtain ⟨v',h1,h2,h3⟩:=h
 exact ⟨v',h1.far hb t1 t2 t3 t4 t5 hr j u,h2.setCell (p:=⟨b,j,none⟩) (fun q=>by simp at q;omega) _,h3⟩
theorem BusTo.from_ {w0 w w':World} {L:BusL} {n W most:Nat} {vs:Nat→Value} {q:Nat→List (Nat × Nat)} {c:Nat} {m':Nat→Nat} {l':List (Nat × Nat)} (h:BusTo w L n W most vs q c m' l' w') (hb:Below w0.heap.size w0 w):BusTo w0 L n W most vs q c m' l' w':=by
 obtain ⟨v',h1,h2,h3⟩:=h
 exact ⟨v',h1,(Keep.ofFresh hb (B:=0)).trans' h2,fun k hk=>(h3 k hk).imp id (fun q=>Nat.le_trans hb.size q)⟩
theorem BusTo.fresh {w w' w'':World} {L:BusL} {n W most:Nat} {vs:Nat→Value} {q:Nat→List (Nat × Nat)} {c:Nat} {m':Nat→Nat} {l':List (Nat × Nat)} (h:BusTo w L n W most vs q c m' l' w') (hb:Below w'.heap.size w' w''):BusTo w L n W most vs q c m' l' w'':=by
 obtain ⟨v',h1,h2,h3⟩:=h
 exact ⟨v',h1.fresh hb,h2.trans' (Keep.ofFresh hb (B:=0)),h3⟩
theorem bus_ne_row {w:World} {L:BusL} {n W most:Nat} {vs:Nat→Value} {m:Nat→Nat} {q:Nat→List (Nat × Nat)} (h:BusAt w L n W most vs m q) {b:Nat} (hb:w.heap.size≤b):b≠L.row:=fun e=>by
 have:=h.ram.row.lt
 omega
theorem drain_none (L:BusL) (n W most:Nat) (vs:Nat→Value) (m:Nat→Nat) (q:Nat→List (Nat × Nat)) (c:Nat) (hc:c<n) (w:World) (h:BusAt w L n W most vs m q) (hq:q c= []):
  Calls Tryz.prog 89 #[.pointer (some ⟨L.bus,0,none⟩), .pointer (some ⟨L.buf c,0,none⟩)] w fun e w'=>e= .returned (.bool false)∧w=w':=by
 have hb:=h.buf c hc
 rw [hq] at hb
 have HB:=Lib.hid hb;clear hb h
 go_enter Tryz.func89,Tryz.ntmps89
 go_wp2_with fail
 refine (bdrain_none _ _ _ _ HB.out).mono ?_
 rintro e w' ⟨rfl,rfl⟩
 go_wp2_with fail
 go_ret
 exact ⟨rfl,rfl⟩
theorem drain_some (L:BusL) (n W most:Nat) (vs:Nat→Value) (m:Nat→Nat) (q:Nat→List (Nat × Nat)) (c:Nat) (hc:c<n) (w:World) (h:BusAt w L n W most vs m q) (x:Nat × Nat) (r:List (Nat × Nat)) (hq:q c=x :: r):
  Calls Tryz.prog 89 #[.pointer (some ⟨L.bus,0,none⟩), .pointer (some ⟨L.buf c,0,none⟩)] w fun e w'=>e= .returned (.bool true)∧BusTo w L n W most vs q c (upd m x.1 x.2) r w':=by
 have hb:=h.buf c hc
 rw [hq] at hb
 have hx1:=h.adr c hc x (by rw [hq];simp)
 have hx2:=(hb.wrd x (by simp)).2
 have ha:∀y∈r,y.1<W:=fun y hy=>h.adr c hc y (by rw [hq];exact List.mem_cons_of_mem _ hy)
 have HB:=Lib.hid hb;clear hb
 have H:=Lib.hid h;clear h
 have HA:=Lib.hid ha;clear ha hq
 go_enter Tryz.func89,Tryz.ntmps89
 go_wp2_with fail
 refine (bdrain_some _ _ _ x r _ HB.out).mono ?_
 rintro e w1 ⟨rfl,⟨v',hB1,hv⟩,hK1⟩
 have hbusb:=H.out.bus.keep hK1 (H.out.bus.ne HB.out.blk (by decide))
 have h0:=hbusb.cell 0
 simp at h0
 have hR1:=H.out.ram.keep hK1 (H.out.ram.blk.ne HB.out.blk (by decide)) (H.out.ram.row.ne HB.out.blk (by decide))
 have HB1:=Lib.hid hB1;clear hB1
 have HR1:=Lib.hid hR1;clear hR1 hbusb
 go_wp2_with fail
 refine (rstore_any L.ram L.row W m x.1 x.2 hx1 hx2 _ HR1.out).mono ?_
 rintro e w2 ⟨rfl,hR2,hK2⟩
 have HR2:=Lib.hid hR2;clear hR2
 go_wp2_with fail
 go_ret
 refine ⟨rfl,BusTo.mk H.out hc (hK1.mono (G:=BusF L vs c) (fun k _ e=> .inr (.inl e)) |>.trans hK2 (fun k _ e=> .inl e)) HR2.out (HB1.out.keep hK2 (HB1.out.blk.ne HR1.out.row (by decide)) (fun k hk e=>HB1.out.row.ne HR1.out.row (by decide) (by rw [hk,e]))) (fun k hk=> .inl (by rw [←hv];exact hk)) HA.out⟩
theorem fence_any (L:BusL) (n W most:Nat) (vs:Nat→Value) (m:Nat→Nat) (q:Nat→List (Nat × Nat)) (c:Nat) (hc:c<n) (w:World) (h:BusAt w L n W most vs m q):
  Calls Tryz.prog 113 #[.pointer (some ⟨L.bus,0,none⟩), .pointer (some ⟨L.buf c,0,none⟩)] w fun e w'=>(∃r:Int,e= .returned (.int .i64 r))∧BusTo w L n W most vs q c (applyAll m (q c)) [] w':=by
 have hq16:(q c).length≤16:=Nat.le_trans (h.buf c hc).len (h.buf c hc).most2
 have HQ:=Lib.hid hq16;clear hq16
 have H:=Lib.hid h;clear h
 go_enter Tryz.func113,Tryz.ntmps113
 go_wp2_with fail
 go_loopw [5] (fun j u=>∃(d:Nat) (m1:Nat→Nat) (l1:List (Nat × Nat)),j= .int .i64 d∧d+l1.length=(q c).length∧BusTo w L n W most vs q c m1 l1 u∧applyAll m1 l1=applyAll m (q c))
  (fun j _=>(q c).length-(intOf j).toNat)
 case atStart=>exact ⟨0,m,q c,rfl,by omega,BusTo.refl H.out c,rfl⟩
 case round=>
  obtain ⟨d,m1,l1,rfl,hd,hT,hap⟩:=hrel
  have hd16:d≤16:=by have:=HQ.out;omega
  have HAP:=Lib.hid hap;clear hap
  obtain ⟨v1,hB1,hK1,hO1⟩:=hT
  have HB1:=Lib.hid hB1;clear hB1
  cases l1 with
  | nil=>
   go_wp2_with fail
   refine (drain_none L n W most _ m1 _ c hc _ HB1.out (upd_same _ _ _)).mono ?_
   rintro e w2 ⟨rfl,rfl⟩
   go_wp2_with fail
   go_ret
   refine ⟨⟨_,rfl⟩, ?_⟩
   have:=HAP.out
   rw [←this]
   exact ⟨v1,HB1.out,hK1,hO1⟩
  | cons x r=>
   simp only [List.length_cons] at hd
   go_wp2_with fail
   refine (drain_some L n W most _ m1 _ c hc _ HB1.out x r (upd_same _ _ _)).mono ?_
   rintro e w2 ⟨rfl,hT2⟩
   have HT2:=Lib.hid (BusTo.step hK1 hO1 hT2)
   go_wp2_with fail
   go_roundw
   case rel=>exact ⟨d+1,_,r,by go_num,by omega,HT2.out,HAP.out⟩
   case measure=>simp [intOf];omega
theorem Blk.of_box {w w':World} {b:Nat} {ty:TypeId} {v:Value} {F:Nat→Prop} (h:Blk w b ty [v]) (hk:Keep F w w') (hF: ¬F b):w'.cell? ⟨b,0,none⟩=some v:=by
 rw [(h.keep hk hF).cell];rfl
theorem busF_box {w:World} {L:BusL} {n W most:Nat} {vs:Nat→Value} {m:Nat→Nat} {q:Nat→List (Nat × Nat)} (h:BusAt w L n W most vs m q) {c:Nat} (hc:c<n) {b:Nat} {ty:TypeId} {cs:List Value} (hb:Blk w b ty cs) (t4:ty≠186) (t5:ty≠197) (hr:b≠L.row): ¬BusF L vs c b:=by
 rintro (e|e|e)
 ·exact hr e
 ·exact (h.buf c hc).blk.ne hb (Ne.symm t4) e.symm
 ·exact (h.buf c hc).row.ne hb (Ne.symm t5) e
theorem BusTo.boxed {w0 w w':World} {L:BusL} {n W most:Nat} {vs:Nat→Value} {m:Nat→Nat} {q:Nat→List (Nat × Nat)} {c:Nat} {m':Nat→Nat} {l':List (Nat × Nat)} (hT:BusTo w L n W most vs q c m' l' w') (hb:Below w0.heap.size w0 w) (h:BusAt w L n W most vs m q) (hc:c<n) {b:Nat} {ty:TypeId} {x:Value} (hB:Blk w b ty [x])
  (t1:ty≠141) (t2:ty≠183) (t3:ty≠137) (t4:ty≠186) (t5:ty≠197) (hb0:w0.heap.size≤b) (hr:b≠L.row) (y:Value):
  BusTo w0 L n W most vs q c m' l' (w'.setCell ⟨b,0,none⟩ y)∧Blk (w'.setCell ⟨b,0,none⟩ y) b ty [y]∧Blk w' b ty [x]:=by
 obtain ⟨v',h1,h2,h3⟩:=hT
 have hB':=hB.keep h2 (busF_box h hc hB t4 t5 hr)
 exact ⟨(BusTo.from_ ⟨v',h1,h2,h3⟩ hb).far hB' t1 t2 t3 t4 t5 hr hb0 0 y,hB'.set 0 y,hB'⟩
theorem drain1_any (L:BusL) (n W most:Nat) (vs:Nat→Value) (m:Nat→Nat) (q:Nat→List (Nat × Nat)) (c:Nat) (hc:c<n) (b1 b2:Nat) (x:Value) (w0 w:World) (h:BusAt w L n W most vs m q) (hb:Below w0.heap.size w0 w)
  (h1:Blk w b1 92 [.pointer (some ⟨L.bus,0,none⟩)]) (h2:Blk w b2 4 [x]) (hr2:b2≠L.row) (hb0:w0.heap.size≤b2):
  Calls Tryz.prog 88 #[.pointer (some ⟨L.buf c,0,none⟩), .pointer (some ⟨b1,0,none⟩), .pointer (some ⟨b2,0,none⟩)] w fun e w'=>∃r,e= .returned (.int .i64 r)∧r=0∧
   BusTo w0 L n W most vs q c (drM m (q c)) (q c).tail w'∧Blk w' b2 4 [.bool (!(q c).isEmpty)]:=by
 have hc1:=h1.cell 0
 simp at hc1
 have H:=Lib.hid h;clear h
 have hf2:=h2.free 0
 have hc2:=h2.cell 0
 simp at hc2
 cases hq:q c with
 | nil=>
  have HQ:=Lib.hid hq;clear hq
  go_enter Tryz.func88,Tryz.ntmps88
  go_wp2_with fail
  refine (drain_none L n W most vs m q c hc _ H.out HQ.out).mono ?_
  rintro e w' ⟨rfl,rfl⟩
  go_wp2_with fail
  go_ret
  have:=BusTo.refl H.out c
  rw [HQ.out] at this
  have:=this.boxed hb H.out hc h2 (by decide) (by decide) (by decide) (by decide) (by decide) hb0 hr2 (.bool false)
  exact ⟨0,rfl,rfl,this.1,this.2.1⟩
 | cons y r=>
  have HQ:=Lib.hid hq;clear hq
  go_enter Tryz.func88,Tryz.ntmps88
  go_wp2_with fail
  refine (drain_some L n W most vs m q c hc _ H.out y r HQ.out).mono ?_
  rintro e w1 ⟨rfl,hT⟩
  obtain ⟨h3,h4,h5⟩:=hT.boxed hb H.out hc h2 (by decide) (by decide) (by decide) (by decide) (by decide) hb0 hr2 (.bool true)
  have hf2':=h5.free 0
  have hc2':=h5.cell 0
  simp at hc2'
  have HT:=Lib.hid (And.intro h3 h4)
  clear h3 h4 h5 hT
  go_wp2_with fail
  go_ret
  exact ⟨0,rfl,rfl,HT.out.1,HT.out.2⟩
theorem two_boxes (w:World) (t1 t2:TypeId) (x y:Value):Below w.heap.size w ((w.alloc (.cells #[x] t1)).alloc (.cells #[y] t2))∧Blk ((w.alloc (.cells #[x] t1)).alloc (.cells #[y] t2)) w.heap.size t1 [x]∧Blk ((w.alloc (.cells #[x] t1)).alloc (.cells #[y] t2)) (w.heap.size+1) t2 [y]:=by
 refine ⟨((Below.refl _ w).alloc (Nat.le_refl _) _).alloc (by simp) _,(Blk.new w t1 [x]).alloc _, ?_⟩
 have:=Blk.new (w.alloc (.cells #[x] t1)) t2 [y]
 rwa [World.size_alloc] at this
theorem busDrain_any (L:BusL) (n W most:Nat) (vs:Nat→Value) (m:Nat→Nat) (q:Nat→List (Nat × Nat)) (c:Nat) (hc:c<n) (w:World) (h:BusAt w L n W most vs m q):
  Calls Tryz.prog 51 #[.pointer (some ⟨L.bus,0,none⟩), .int .i64 c] w fun e w'=>e= .returned (.tuple #[.bool (!(q c).isEmpty), .int .i64 0])∧BusTo w L n W most vs q c (drM m (q c)) (q c).tail w':=by
 obtain ⟨hb,h1,h2⟩:=two_boxes w 92 4 (.pointer (some ⟨L.bus,0,none⟩)) (.bool false)
 have hr:w.heap.size+1≠L.row:=bus_ne_row h (by omega)
 have H:=Lib.hid (h.fresh hb);clear h
 have HB:=Lib.hid (And.intro hb (And.intro h1 h2));clear hb h1 h2
 go_enter Tryz.func51,Tryz.ntmps51
 go_wp2_with fail
 refine (ask_any L n W most vs m q c hc 88 #[.pointer (some ⟨w.heap.size,0,none⟩), .pointer (some ⟨w.heap.size+1,0,none⟩)] _ _ H.out (enters Tryz.func88 (by kernel_rfl) rfl) (drain1_any L n W most vs m q c hc _ _ _ w _ H.out HB.out.1 HB.out.2.1 HB.out.2.2 hr (by omega))).mono ?_
 rintro e w1 ⟨r,rfl,rfl,hT,h5⟩
 have hf:=h5.free 0
 have hc1:=h5.cell 0
 simp at hc1
 have h6:=hT.far h5 (by decide) (by decide) (by decide) (by decide) (by decide) hr (by omega) 0 (.bool (!(q c).isEmpty))
 have h7:=h5.set 0 (.bool (!(q c).isEmpty))
 have HT:=Lib.hid h6
 clear h6 hT
 go_wp2_with fail
 refine bodyPost_ret (res_ct rfl rfl Tryz.underlying4 _ _ (w.heap.size+1) (.bool (!(q c).isEmpty)) rfl (by rw [h7.cell];rfl)) rfl ?_
 exact ⟨rfl,HT.out⟩
theorem fence1_any (L:BusL) (n W most:Nat) (vs:Nat→Value) (m:Nat→Nat) (q:Nat→List (Nat × Nat)) (c:Nat) (hc:c<n) (b1 b2:Nat) (x:Value) (w0 w:World) (h:BusAt w L n W most vs m q) (hb:Below w0.heap.size w0 w)
  (h1:Blk w b1 92 [.pointer (some ⟨L.bus,0,none⟩)]) (h2:Blk w b2 3 [x]) (hr2:b2≠L.row) (hb0:w0.heap.size≤b2):
  Calls Tryz.prog 112 #[.pointer (some ⟨L.buf c,0,none⟩), .pointer (some ⟨b1,0,none⟩), .pointer (some ⟨b2,0,none⟩)] w fun e w'=>∃r,e= .returned (.int .i64 r)∧r=0∧
   BusTo w0 L n W most vs q c (applyAll m (q c)) [] w'∧∃y:Int,Blk w' b2 3 [.int .i64 y]:=by
 have hc1:=h1.cell 0
 simp at hc1
 have H:=Lib.hid h;clear h
 have hf2:=h2.free 0
 have hc2:=h2.cell 0
 simp at hc2
 go_enter Tryz.func112,Tryz.ntmps112
 go_wp2_with fail
 refine (fence_any L n W most vs m q c hc _ H.out).mono ?_
 rintro e w1 ⟨⟨y,rfl⟩,hT⟩
 obtain ⟨h3,h4,h5⟩:=hT.boxed hb H.out hc h2 (by decide) (by decide) (by decide) (by decide) (by decide) hb0 hr2 (.int .i64 y)
 have hf2':=h5.free 0
 have hc2':=h5.cell 0
 simp at hc2'
 have HT:=Lib.hid (And.intro h3 h4)
 clear h3 h4 h5 hT
 go_wp2_with fail
 go_ret
 exact ⟨0,rfl,rfl,HT.out.1,y,HT.out.2⟩
theorem busFence_any (L:BusL) (n W most:Nat) (vs:Nat→Value) (m:Nat→Nat) (q:Nat→List (Nat × Nat)) (c:Nat) (hc:c<n) (w:World) (h:BusAt w L n W most vs m q):
  Calls Tryz.prog 66 #[.pointer (some ⟨L.bus,0,none⟩), .int .i64 c] w fun e w'=>(∃y:Int,e= .returned (.tuple #[.int .i64 y, .int .i64 0]))∧BusTo w L n W most vs q c (applyAll m (q c)) [] w':=by
 obtain ⟨hb,h1,h2⟩:=two_boxes w 92 3 (.pointer (some ⟨L.bus,0,none⟩)) (.int .i64 0)
 have hr:w.heap.size+1≠L.row:=bus_ne_row h (by omega)
 have H:=Lib.hid (h.fresh hb);clear h
 have HB:=Lib.hid (And.intro hb (And.intro h1 h2));clear hb h1 h2
 go_enter Tryz.func66,Tryz.ntmps66
 go_wp2_with fail
 refine (ask_any L n W most vs m q c hc 112 #[.pointer (some ⟨w.heap.size,0,none⟩), .pointer (some ⟨w.heap.size+1,0,none⟩)] _ _ H.out (enters Tryz.func112 (by kernel_rfl) rfl) (fence1_any L n W most vs m q c hc _ _ _ w _ H.out HB.out.1 HB.out.2.1 HB.out.2.2 hr (by omega))).mono ?_
 rintro e w1 ⟨r,rfl,rfl,hT,y,h5⟩
 have hf:=h5.free 0
 have hc1:=h5.cell 0
 simp at hc1
 have h6:=hT.far h5 (by decide) (by decide) (by decide) (by decide) (by decide) hr (by omega) 0 (.int .i64 y)
 have h7:=h5.set 0 (.int .i64 y)
 have HT:=Lib.hid h6
 clear h6 hT
 go_wp2_with fail
 refine bodyPost_ret (res_ct rfl rfl Tryz.underlying3 _ _ (w.heap.size+1) (.int .i64 y) rfl (by rw [h7.cell];rfl)) rfl ?_
 exact ⟨⟨y,rfl⟩,HT.out⟩
theorem BusTo.ofBuf {w w':World} {L:BusL} {n W most:Nat} {vs:Nat→Value} {m:Nat→Nat} {q:Nat→List (Nat × Nat)} {c:Nat} {l':List (Nat × Nat)} {v':Value} (h:BusAt w L n W most vs m q) (hc:c<n) (hk:Keep (fun k=>k=L.buf c∨(vs c).ownBlock=some k) w w')
  (hb:BufAt w' (L.buf c) v' most l') (hv:v'.ownBlock=(vs c).ownBlock∨v'.ownBlock=none∨∃k,v'.ownBlock=some k∧w.heap.size≤k) (ha:∀x∈l',x.1<W):BusTo w L n W most vs q c m l' w':=
 BusTo.mk h hc (hk.mono (fun k _ e=> .inr e)) (h.ram.keep hk (fun e=>e.elim (h.ram.blk.ne (h.buf c hc).blk (by decide)) ((h.buf c hc).row.ne h.ram.blk (by decide))) (fun e=>e.elim (h.ram.row.ne (h.buf c hc).blk (by decide)) ((h.buf c hc).row.ne h.ram.row (by decide)))) hb
  (fun k hk=>by
   rcases hv with e|e|⟨d,e,hd⟩
   ·exact .inl (by rw [←e];exact hk)
   ·rw [e] at hk;cases hk
   ·rw [e] at hk;injection hk with hk;exact .inr (by omega)) ha
theorem lose1_any (L:BusL) (n W most:Nat) (vs:Nat→Value) (m:Nat→Nat) (q:Nat→List (Nat × Nat)) (c:Nat) (hc:c<n) (b2:Nat) (x:Value) (w0 w:World) (h:BusAt w L n W most vs m q) (hb:Below w0.heap.size w0 w)
  (h2:Blk w b2 3 [x]) (hr2:b2≠L.row) (hb0:w0.heap.size≤b2):
  Calls Tryz.prog 96 #[.pointer (some ⟨L.buf c,0,none⟩), .pointer (some ⟨b2,0,none⟩)] w fun e w'=>∃r,e= .returned (.int .i64 r)∧r=0∧
   BusTo w0 L n W most vs q c m [] w'∧∃y:Int,Blk w' b2 3 [.int .i64 y]:=by
 have H:=Lib.hid h;clear h
 have hf2:=h2.free 0
 have hc2:=h2.cell 0
 simp at hc2
 go_enter Tryz.func96,Tryz.ntmps96
 go_wp2_with fail
 refine (bclear_any _ _ _ _ _ (H.out.buf c hc)).mono ?_
 rintro e w1 ⟨⟨y,rfl⟩,⟨v',hB',hv'⟩,hK⟩
 have hT:BusTo w L n W most vs q c m [] w1:=BusTo.ofBuf H.out hc (hK.mono (fun k _ e=> .inl e)) hB' (hv'.imp id .inl) (fun x hx=>by simp at hx)
 obtain ⟨h3,h4,h5⟩:=hT.boxed hb H.out hc h2 (by decide) (by decide) (by decide) (by decide) (by decide) hb0 hr2 (.int .i64 y)
 have hf2':=h5.free 0
 have hc2':=h5.cell 0
 simp at hc2'
 have HT:=Lib.hid (And.intro h3 h4)
 clear h3 h4 h5 hT hB' hv' hK
 go_wp2_with fail
 go_ret
 exact ⟨0,rfl,rfl,HT.out.1,y,HT.out.2⟩
theorem one_box (w:World) (t:TypeId) (x:Value):Below w.heap.size w (w.alloc (.cells #[x] t))∧Blk (w.alloc (.cells #[x] t)) w.heap.size t [x]:=
 ⟨(Below.refl _ w).alloc (Nat.le_refl _) _,Blk.new w t [x]⟩
theorem busLose_any (L:BusL) (n W most:Nat) (vs:Nat→Value) (m:Nat→Nat) (q:Nat→List (Nat × Nat)) (c:Nat) (hc:c<n) (w:World) (h:BusAt w L n W most vs m q):
  Calls Tryz.prog 56 #[.pointer (some ⟨L.bus,0,none⟩), .int .i64 c] w fun e w'=>(∃y:Int,e= .returned (.tuple #[.int .i64 y, .int .i64 0]))∧BusTo w L n W most vs q c m [] w':=by
 obtain ⟨hb,h2⟩:=one_box w 3 (.int .i64 0)
 have hr:w.heap.size≠L.row:=bus_ne_row h (by omega)
 have H:=Lib.hid (h.fresh hb);clear h
 have HB:=Lib.hid (And.intro hb h2);clear hb h2
 go_enter Tryz.func56,Tryz.ntmps56
 go_wp2_with fail
 refine (ask_any L n W most vs m q c hc 96 #[.pointer (some ⟨w.heap.size,0,none⟩)] _ _ H.out (enters Tryz.func96 (by kernel_rfl) rfl) (lose1_any L n W most vs m q c hc _ _ w _ H.out HB.out.1 HB.out.2 hr (by omega))).mono ?_
 rintro e w1 ⟨r,rfl,rfl,hT,y,h5⟩
 have hf:=h5.free 0
 have hc1:=h5.cell 0
 simp at hc1
 have h6:=hT.far h5 (by decide) (by decide) (by decide) (by decide) (by decide) hr (by omega) 0 (.int .i64 y)
 have h7:=h5.set 0 (.int .i64 y)
 have HT:=Lib.hid h6
 clear h6 hT
 go_wp2_with fail
 refine bodyPost_ret (res_ct rfl rfl Tryz.underlying3 _ _ w.heap.size (.int .i64 y) rfl (by rw [h7.cell];rfl)) rfl ?_
 exact ⟨⟨y,rfl⟩,HT.out⟩
theorem bwrong_any (L:BusL) (n W most:Nat) (vs:Nat→Value) (m:Nat→Nat) (q:Nat→List (Nat × Nat)) (a x:Nat) (ha:a<W) (hx:x<65536) (w:World) (h:BusAt w L n W most vs m q):
  Calls Tryz.prog 107 #[.pointer (some ⟨L.bus,0,none⟩), .int .i64 a, .int .i64 x] w fun e w'=>e= .returned (.int .i64 0)∧w=w':=by
 have h0:=h.bus.cell 0
 simp at h0
 have e1:decide ((x:Int)<0)=false:=by simp
 have e2:decide ((65535:Int)<(x:Int))=false:=by simp;omega
 have HR:=Lib.hid h.ram;clear h
 go_enter Tryz.func107,Tryz.ntmps107
 go_wp2_with fail
 refine (rload_any _ _ W m a ha _ HR.out).mono ?_
 rintro e w' ⟨rfl,rfl⟩
 go_wp2_with fail
 go_ret
 exact ⟨rfl,rfl⟩
def stM (most:Nat) (m:Nat→Nat) (l:List (Nat × Nat)):Nat→Nat:=if l.length=most then drM m l else m
def stQ (most:Nat) (l:List (Nat × Nat)) (x:Nat × Nat):List (Nat × Nat):=(if l.length=most then l.tail else l) ++ [x]
theorem store1_any (L:BusL) (n W most:Nat) (vs:Nat→Value) (m:Nat→Nat) (q:Nat→List (Nat × Nat)) (c:Nat) (hc:c<n) (b1 b2 b3 a x:Nat) (ha:a<W) (hx:x<65536) (w0 w:World) (h:BusAt w L n W most vs m q) (hb:Below w0.heap.size w0 w)
  (h1:Blk w b1 92 [.pointer (some ⟨L.bus,0,none⟩)]) (h2:Blk w b2 3 [.int .i64 a]) (h3:Blk w b3 3 [.int .i64 x]) (hr2:b2≠L.row) (hr3:b3≠L.row):
  Calls Tryz.prog 106 #[.pointer (some ⟨L.buf c,0,none⟩), .pointer (some ⟨b1,0,none⟩), .pointer (some ⟨b2,0,none⟩), .pointer (some ⟨b3,0,none⟩)] w fun e w'=>∃r,e= .returned (.int .i64 r)∧r=0∧
   BusTo w0 L n W most vs q c (stM most m (q c)) (stQ most (q c) (a,x)) w':=by
 have c1:=h1.cell 0
 have c2:=h2.cell 0
 have c3:=h3.cell 0
 simp at c1 c2 c3
 have hl:=(h.buf c hc).len
 have hm1:=(h.buf c hc).most1
 have ha6:a<65536:=Nat.lt_of_lt_of_le ha h.ram.most
 have had:=h.adr c hc
 have HAD:=Lib.hid had;clear had
 have H:=Lib.hid h;clear h
 by_cases hfull:(q c).length=most
 ·have e1:(((q c).length:Int) == (most:Int))=true:=by rw [beq_iff_eq];omega
  have e1':((q c).length == most)=true:=by rw [beq_iff_eq];omega
  obtain ⟨y,r,hq⟩:∃y r,q c=y :: r:=by
   cases hq:q c with
   | nil=>rw [hq] at hfull;simp at hfull;omega
   | cons y r=>exact ⟨y,r,rfl⟩
  have hM:stM most m (q c)=upd m y.1 y.2:=by unfold stM;rw [if_pos hfull,hq];rfl
  have hQ:stQ most (q c) (a,x)=r ++ [(a,x)]:=by unfold stQ;rw [if_pos hfull,hq];rfl
  have hrl:r.length<most:=by rw [hq] at hfull;simp at hfull;omega
  rw [hM,hQ]
  have HQ:=Lib.hid hq;clear hq hM hQ
  go_enter Tryz.func106,Tryz.ntmps106
  go_wp2_with fail
  refine (bwrong_any L n W most vs m q a x ha hx _ H.out).mono ?_
  rintro e w' ⟨rfl,rfl⟩
  go_wp2_with fail
  refine (blen_any _ _ _ _ _ (H.out.buf c hc)).mono ?_
  rintro e w' ⟨rfl,rfl⟩
  go_wp2_with fail
  refine (bcap_any _ _ _ _ _ (H.out.buf c hc)).mono ?_
  rintro e w' ⟨rfl,rfl⟩
  go_wp2_with fail
  refine (drain_some L n W most vs m q c hc _ H.out y r HQ.out).mono ?_
  rintro e w1 ⟨rfl,v1,hB1,hK1,hO1⟩
  have d2:=(h2.keep hK1 (busF_box H.out hc h2 (by decide) (by decide) hr2)).cell 0
  have d3:=(h3.keep hK1 (busF_box H.out hc h3 (by decide) (by decide) hr3)).cell 0
  simp at d2 d3
  have hbuf:=hB1.buf c hc
  rw [upd_same,upd_same] at hbuf
  have HB1:=Lib.hid hB1;clear hB1
  have HF:=Lib.hid hbuf;clear hbuf
  go_wp2_with fail
  refine (bput_any _ _ _ _ a x ha6 hx _ HF.out hrl).mono ?_
  rintro e w2 ⟨rfl,v2,hB2,hK2,hO2⟩
  have hT2:=BusTo.ofBuf HB1.out hc (by rw [upd_same];exact hK2) hB2 (by rw [upd_same];exact hO2.imp id .inr) (fun z hz=>by
   rcases List.mem_append.1 hz with h5|h5
   ·exact HAD.out z (by rw [HQ.out];exact List.mem_cons_of_mem _ h5)
   ·rw [List.mem_singleton.1 h5];exact ha)
  have HT:=Lib.hid ((BusTo.step hK1 hO1 hT2).from_ hb)
  clear hT2 hB2 hK2 hO2
  go_wp2_with fail
  go_ret
  exact ⟨0,rfl,rfl,HT.out⟩
 ·have e1:(((q c).length:Int) == (most:Int))=false:=by rw [beq_eq_false_iff_ne];omega
  have e1':((q c).length == most)=false:=by rw [beq_eq_false_iff_ne];omega
  have hM:stM most m (q c)=m:=by unfold stM;rw [if_neg hfull]
  have hQ:stQ most (q c) (a,x)=q c ++ [(a,x)]:=by unfold stQ;rw [if_neg hfull]
  rw [hM,hQ]
  clear hM hQ
  go_enter Tryz.func106,Tryz.ntmps106
  go_wp2_with fail
  refine (bwrong_any L n W most vs m q a x ha hx _ H.out).mono ?_
  rintro e w' ⟨rfl,rfl⟩
  go_wp2_with fail
  refine (blen_any _ _ _ _ _ (H.out.buf c hc)).mono ?_
  rintro e w' ⟨rfl,rfl⟩
  go_wp2_with fail
  refine (bcap_any _ _ _ _ _ (H.out.buf c hc)).mono ?_
  rintro e w' ⟨rfl,rfl⟩
  go_wp2_with fail
  refine (bput_any _ _ _ _ a x ha6 hx _ (H.out.buf c hc) (by omega)).mono ?_
  rintro e w2 ⟨rfl,v2,hB2,hK2,hO2⟩
  have hT2:=BusTo.ofBuf H.out hc hK2 hB2 (hO2.imp id .inr) (fun z hz=>by
   rcases List.mem_append.1 hz with h5|h5
   ·exact HAD.out z h5
   ·rw [List.mem_singleton.1 h5];exact ha)
  have HT:=Lib.hid (hT2.from_ hb)
  clear hT2 hB2 hK2 hO2
  go_wp2_with fail
  go_ret
  exact ⟨0,rfl,rfl,HT.out⟩
theorem three_boxes (w:World) (t1 t2 t3:TypeId) (x y z:Value):Below w.heap.size w (((w.alloc (.cells #[x] t1)).alloc (.cells #[y] t2)).alloc (.cells #[z] t3))∧Blk (((w.alloc (.cells #[x] t1)).alloc (.cells #[y] t2)).alloc (.cells #[z] t3)) w.heap.size t1 [x]∧
  Blk (((w.alloc (.cells #[x] t1)).alloc (.cells #[y] t2)).alloc (.cells #[z] t3)) (w.heap.size+1) t2 [y]∧Blk (((w.alloc (.cells #[x] t1)).alloc (.cells #[y] t2)).alloc (.cells #[z] t3)) (w.heap.size+2) t3 [z]:=by
 obtain ⟨h1,h2,h3⟩:=two_boxes w t1 t2 x y
 refine ⟨h1.alloc (by simp;omega) _,h2.alloc _,h3.alloc _, ?_⟩
 have:=Blk.new ((w.alloc (.cells #[x] t1)).alloc (.cells #[y] t2)) t3 [z]
 rwa [World.size_alloc,World.size_alloc] at this
theorem busStore_any (L:BusL) (n W most:Nat) (vs:Nat→Value) (m:Nat→Nat) (q:Nat→List (Nat × Nat)) (c:Nat) (hc:c<n) (a x:Nat) (ha:a<W) (hx:x<65536) (w:World) (h:BusAt w L n W most vs m q):
  Calls Tryz.prog 64 #[.pointer (some ⟨L.bus,0,none⟩), .int .i64 c, .int .i64 a, .int .i64 x] w fun e w'=>e= .returned (.int .i64 0)∧BusTo w L n W most vs q c (stM most m (q c)) (stQ most (q c) (a,x)) w':=by
 obtain ⟨hb,h1,h2,h3⟩:=three_boxes w 92 3 3 (.pointer (some ⟨L.bus,0,none⟩)) (.int .i64 a) (.int .i64 x)
 have hr1:w.heap.size+1≠L.row:=bus_ne_row h (by omega)
 have hr2:w.heap.size+2≠L.row:=bus_ne_row h (by omega)
 have H:=Lib.hid (h.fresh hb);clear h
 have HB:=Lib.hid (And.intro hb (And.intro h1 (And.intro h2 h3)));clear hb h1 h2 h3
 go_enter Tryz.func64,Tryz.ntmps64
 go_wp2_with fail
 refine (ask_any L n W most vs m q c hc 106 #[.pointer (some ⟨w.heap.size,0,none⟩), .pointer (some ⟨w.heap.size+1,0,none⟩), .pointer (some ⟨w.heap.size+2,0,none⟩)] _ _ H.out (enters Tryz.func106 (by kernel_rfl) rfl)
  (store1_any L n W most vs m q c hc _ _ _ a x ha hx w _ H.out HB.out.1 HB.out.2.1 HB.out.2.2.1 HB.out.2.2.2 hr1 hr2)).mono ?_
 rintro e w1 ⟨r,rfl,rfl,hT⟩
 have HT:=Lib.hid hT;clear hT
 go_wp2_with fail
 go_ret
 exact ⟨rfl,HT.out⟩
end Go.Proofs.YtaaffebnajjfhaaGreatDoor.T
