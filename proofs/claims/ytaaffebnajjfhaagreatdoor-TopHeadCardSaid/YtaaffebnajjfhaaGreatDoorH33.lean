/- Texts of this proof, merged: Frs3, Frs4, Frs5. -/
import Derived.Test.YtaaffebnajjfhaaGreatDoorH28
namespace Go.Proofs.YtaaffebnajjfhaaGreatDoor.T
set_option linter.unusedVariables false
set_option linter.unusedSimpArgs false
set_option linter.unusedSectionVars false
open Go.RowKit
theorem right_of {n r m:Int} (h:rightB n r m=true):2≤n∧n≤8∧(2≤r∧r≤64)∧ringB r=true∧1≤m∧m≤16:=by
 unfold rightB at h
 simp only [Bool.and_eq_true,decide_eq_true_eq] at h
 obtain ⟨⟨⟨⟨h1,h2⟩,h3⟩,h4⟩,h5⟩:=h
 have:=(ringB_iff r).1 h3
 exact ⟨h1,h2,by omega,h3,h4,h5⟩
theorem size106:(Tryz.prog.info? 106).map (·.size)=some 2:=by kernel_rfl
def baseZ (n r f t:Int):Int:=(f*(n-1)+t-if f<t then 1 else 0)*(4+11*r)
theorem of_box (n r m:Int) (w:World) (hg:Glob w):∃w1,w1=(w.alloc (.cells #[.int .i64 n, .int .i64 r, .int .i64 m] 23)).alloc (.cells #[.int .i64 0, .int .i64 0] 106)∧Below w.heap.size w w1∧Blk w1 w.heap.size 23 [.int .i64 n, .int .i64 r, .int .i64 m]∧Blk w1 (w.heap.size+1) 106 [.int .i64 0, .int .i64 0]∧Glob w1∧w1.heap.size=w.heap.size+2:=by
 have h1:=Blk.new w 23 [.int .i64 n, .int .i64 r, .int .i64 m]
 have h2:=Blk.new (w.alloc (.cells #[.int .i64 n, .int .i64 r, .int .i64 m] 23)) 106 [.int .i64 0, .int .i64 0]
 have hb:Below w.heap.size w ((w.alloc (.cells #[.int .i64 n, .int .i64 r, .int .i64 m] 23)).alloc (.cells #[.int .i64 0, .int .i64 0] 106)):=((Below.refl _ _).alloc (Nat.le_refl _) _).alloc (by simp) _
 refine ⟨_,rfl,hb,h1.alloc _, ?_,hg.fresh hb,by simp⟩
 have e:(w.alloc (.cells #[.int .i64 n, .int .i64 r, .int .i64 m] 23)).heap.size=w.heap.size+1:=by simp
 rw [e] at h2
 exact h2
theorem far2 {u:World} {k:Nat} {a b:Value} {v:Option Value} (h:u.cell? ⟨k,1,none⟩=v):(((u.setCell ⟨k+1,0,none⟩ a).setCell ⟨k+1,1,none⟩ b).drew).cell? ⟨k,1,none⟩=v:=by
 have e:((u.setCell ⟨k+1,0,none⟩ a).setCell ⟨k+1,1,none⟩ b).heap[k]? = u.heap[k]? := by
  rw [Below.heap_setCell _ _ _ _ (by simp),Below.heap_setCell _ _ _ _ (by simp)]
 have e2:((u.setCell ⟨k+1,0,none⟩ a).setCell ⟨k+1,1,none⟩ b).cell? ⟨k,1,none⟩=u.cell? ⟨k,1,none⟩:=World.cell?_of_block e
 exact e2.trans h
set_option maxHeartbeats 1000000 in
set_option maxRecDepth 100000 in
theorem of_yes (n r m f t:Int) (hR:rightB n r m=true) (hf0:0≤f) (hf1:f<n) (ht0:0≤t) (ht1:t<n) (hne:f≠t) (w:World) (hg:Glob w):
  Calls Tryz.prog 44 #[plotV n r m, .int .i64 f, .int .i64 t] w fun e w'=>e= .returned (.tuple #[.agg #[.int .i64 (baseZ n r f t), .int .i64 r], .bool true])∧Below w.heap.size w w':=by
 obtain ⟨hn0,hn1,⟨hr0,hr1⟩,hrb,hm0,hm1⟩:=right_of hR
 obtain ⟨w1,hw1,hb1,hk1,hk2,hg1,hz1⟩:=of_box n r m w hg
 have hQ:=right_any n r m (by omega) w1 hg1
 rw [hR] at hQ
 have hS:=fun u (hu:Glob u)=>size_any r (by omega) u hu
 rw [hrb] at hS
 simp only [if_true] at hS
 have HW:=Lib.hid hw1
 have HQ:=Lib.hid hQ
 have HS:=Lib.hid hS
 have HB:=Lib.hid (And.intro hb1 (And.intro hk1 (And.intro hk2 (And.intro hg1 hz1))))
 have hmul0:0≤f*(n-1):=Int.mul_nonneg hf0 (by omega)
 have hmul1:f*(n-1)≤49:=by
  have h1:f*(n-1)≤7*(n-1):=Int.mul_le_mul_of_nonneg_right (by omega) (by omega)
  omega
 have e0:(f == t)=false:=by simpa using hne
 have hbz:baseZ n r f t=if f<t then (f*(n-1)+t-1)*(4+11*r) else (f*(n-1)+t)*(4+11*r):=by
  unfold baseZ
  split
  ·rfl
  ·simp
 rw [hbz]
 generalize hA:f*(n-1)=A at *
 have hq:∀q:Int,0≤q→q≤57→0≤q*(4+11*r)∧q*(4+11*r)≤40356:=fun q h0 h1=>by
  refine ⟨Int.mul_nonneg h0 (by omega), ?_⟩
  have h2:q*(4+11*r)≤57*(4+11*r):=Int.mul_le_mul_of_nonneg_right h1 (by omega)
  omega
 clear hbz hw1 hb1 hk1 hk2 hg1 hz1 hQ hS hR hrb hg hne
 unfold plotV
 by_cases hlt:f<t
 ·rw [if_pos hlt]
  have hq1:=hq (A+t-1) (by omega) (by omega)
  obtain ⟨hq2,hq3⟩:=hq1
  clear hq
  have ew:IntKind.i64.wrap ((A+t-1)*(4+11*r))=(A+t-1)*(4+11*r):=by rw [IntKind.wrap_i64];omega
  go_enter Tryz.func44,Tryz.ntmps44
  go_wp2_with fail
  rw [←HW.out]
  refine HQ.out.mono ?_
  rintro e w2 ⟨rfl,hb2⟩
  have hk1:=HB.out.2.1.keep (Keep.ofFresh hb2 (B:=0) (F:=fun _=>False)) (fun q=>q)
  have hk2:=HB.out.2.2.1.keep (Keep.ofFresh hb2 (B:=0) (F:=fun _=>False)) (fun q=>q)
  have hg2:=HB.out.2.2.2.1.fresh hb2
  have p0:=hk1.cell 0
  have p1:=hk1.cell 1
  have p2:=hk1.cell 2
  have z0:=hk2.cell 0
  have z1:=hk2.cell 1
  have y0:=hk2.free 0
  have y1:=hk2.free 1
  simp only [List.getElem?_cons_zero,List.getElem?_cons_succ] at p0 p1 p2 z0 z1
  have HS2:=Lib.hid (HS.out _ hg2)
  have HB2:=Lib.hid (And.intro hb2 (And.intro hk2 hg2))
  clear hk1 hk2 hg2 hb2
  go_wp2_with fail
  go_region_held3 (fun u=>u.cell? ⟨w.heap.size,1,none⟩=some (.int .i64 r)) (first|exact p1|assumption|exact far2 p1) (first|(go_at_call 43;refine (HS.out _ (HB2.out.2.2.fresh (Below.refl _ _).drew)).mono ?_;rintro e w3 ⟨rfl,rfl⟩))
  have hk3:=((HB2.out.2.1.set 0 (.int .i64 ((A+t-1)*(4+11*r)))).set 1 (.int .i64 r))
  have hb3:Below w.heap.size w (((w2.setCell ⟨w.heap.size+1,0,none⟩ (.int .i64 ((A+t-1)*(4+11*r)))).setCell ⟨w.heap.size+1,1,none⟩ (.int .i64 r)).drew):=by
   have h2:=HB.out.1.trans (HB2.out.1.mono (HB.out.1.size))
   exact ((h2.setCell (p:=⟨w.heap.size+1,0,none⟩) (by simp) (.int .i64 ((A+t-1)*(4+11*r)))).setCell (p:=⟨w.heap.size+1,1,none⟩) (by simp) (.int .i64 r)).drew
  have HF:=Lib.hid (And.intro hk3 hb3)
  clear hk3 hb3
  generalize (w2.setCell ⟨w.heap.size+1,0,none⟩ (.int .i64 ((A+t-1)*(4+11*r)))).setCell ⟨w.heap.size+1,1,none⟩ (.int .i64 r)=w4 at *
  go_wp2_with fail
  refine bodyPost_ret (res_st rfl _ _ (w.heap.size+1) #[.int .i64 ((A+t-1)*(4+11*r)), .int .i64 r] rfl (run_loadVar_row _ _ 106 106 _ (0,0) _ HF.out.1 Tryz.underlying106 rfl size106)) rfl ?_
  exact ⟨rfl,HF.out.2⟩
 ·rw [if_neg hlt]
  have hq1:=hq (A+t) (by omega) (by omega)
  obtain ⟨hq2,hq3⟩:=hq1
  clear hq
  have ew:IntKind.i64.wrap ((A+t)*(4+11*r))=(A+t)*(4+11*r):=by rw [IntKind.wrap_i64];omega
  go_enter Tryz.func44,Tryz.ntmps44
  go_wp2_with fail
  rw [←HW.out]
  refine HQ.out.mono ?_
  rintro e w2 ⟨rfl,hb2⟩
  have hk1:=HB.out.2.1.keep (Keep.ofFresh hb2 (B:=0) (F:=fun _=>False)) (fun q=>q)
  have hk2:=HB.out.2.2.1.keep (Keep.ofFresh hb2 (B:=0) (F:=fun _=>False)) (fun q=>q)
  have hg2:=HB.out.2.2.2.1.fresh hb2
  have p0:=hk1.cell 0
  have p1:=hk1.cell 1
  have p2:=hk1.cell 2
  have z0:=hk2.cell 0
  have z1:=hk2.cell 1
  have y0:=hk2.free 0
  have y1:=hk2.free 1
  simp only [List.getElem?_cons_zero,List.getElem?_cons_succ] at p0 p1 p2 z0 z1
  have HS2:=Lib.hid (HS.out _ hg2)
  have HB2:=Lib.hid (And.intro hb2 (And.intro hk2 hg2))
  clear hk1 hk2 hg2 hb2
  go_wp2_with fail
  go_region_held3 (fun u=>u.cell? ⟨w.heap.size,1,none⟩=some (.int .i64 r)) (first|exact p1|assumption|exact far2 p1) (first|(go_at_call 43;refine (HS.out _ (HB2.out.2.2.fresh (Below.refl _ _).drew)).mono ?_;rintro e w3 ⟨rfl,rfl⟩))
  have hk3:=((HB2.out.2.1.set 0 (.int .i64 ((A+t)*(4+11*r)))).set 1 (.int .i64 r))
  have hb3:Below w.heap.size w (((w2.setCell ⟨w.heap.size+1,0,none⟩ (.int .i64 ((A+t)*(4+11*r)))).setCell ⟨w.heap.size+1,1,none⟩ (.int .i64 r)).drew):=by
   have h2:=HB.out.1.trans (HB2.out.1.mono (HB.out.1.size))
   exact ((h2.setCell (p:=⟨w.heap.size+1,0,none⟩) (by simp) (.int .i64 ((A+t)*(4+11*r)))).setCell (p:=⟨w.heap.size+1,1,none⟩) (by simp) (.int .i64 r)).drew
  have HF:=Lib.hid (And.intro hk3 hb3)
  clear hk3 hb3
  generalize (w2.setCell ⟨w.heap.size+1,0,none⟩ (.int .i64 ((A+t)*(4+11*r)))).setCell ⟨w.heap.size+1,1,none⟩ (.int .i64 r)=w4 at *
  go_wp2_with fail
  refine bodyPost_ret (res_st rfl _ _ (w.heap.size+1) #[.int .i64 ((A+t)*(4+11*r)), .int .i64 r] rfl (run_loadVar_row _ _ 106 106 _ (0,0) _ HF.out.1 Tryz.underlying106 rfl size106)) rfl ?_
  exact ⟨rfl,HF.out.2⟩
set_option maxHeartbeats 1000000 in
set_option maxRecDepth 100000 in
theorem of_self (n r m f:Int) (hR:rightB n r m=true) (hf0:0≤f) (hf1:f<n) (w:World) (hg:Glob w):
  Calls Tryz.prog 44 #[plotV n r m, .int .i64 f, .int .i64 f] w fun e w'=>e= .returned (.tuple #[.agg #[.int .i64 0, .int .i64 0], .bool false])∧Below w.heap.size w w':=by
 obtain ⟨hn0,hn1,⟨hr0,hr1⟩,hrb,hm0,hm1⟩:=right_of hR
 obtain ⟨w1,hw1,hb1,hk1,hk2,hg1,hz1⟩:=of_box n r m w hg
 have hQ:=right_any n r m (by omega) w1 hg1
 rw [hR] at hQ
 have HW:=Lib.hid hw1
 have HQ:=Lib.hid hQ
 have HB:=Lib.hid (And.intro hb1 (And.intro hk1 (And.intro hk2 (And.intro hg1 hz1))))
 clear hw1 hb1 hk1 hk2 hg1 hz1 hQ hR hrb hg
 unfold plotV
 go_enter Tryz.func44,Tryz.ntmps44
 go_wp2_with fail
 rw [←HW.out]
 refine HQ.out.mono ?_
 rintro e w2 ⟨rfl,hb2⟩
 have hk1:=HB.out.2.1.keep (Keep.ofFresh hb2 (B:=0) (F:=fun _=>False)) (fun q=>q)
 have hk2:=HB.out.2.2.1.keep (Keep.ofFresh hb2 (B:=0) (F:=fun _=>False)) (fun q=>q)
 have p0:=hk1.cell 0
 have p1:=hk1.cell 1
 have p2:=hk1.cell 2
 have z0:=hk2.cell 0
 have z1:=hk2.cell 1
 have y0:=hk2.free 0
 have y1:=hk2.free 1
 simp only [List.getElem?_cons_zero,List.getElem?_cons_succ] at p0 p1 p2 z0 z1
 have hk3:=((hk2.set 0 (.int .i64 0)).set 1 (.int .i64 0))
 have hb3:Below w.heap.size w (((w2.setCell ⟨w.heap.size+1,0,none⟩ (.int .i64 0)).setCell ⟨w.heap.size+1,1,none⟩ (.int .i64 0))):=by
  have h2:=HB.out.1.trans (hb2.mono (HB.out.1.size))
  exact ((h2.setCell (p:=⟨w.heap.size+1,0,none⟩) (by simp) (.int .i64 0)).setCell (p:=⟨w.heap.size+1,1,none⟩) (by simp) (.int .i64 0))
 have HF:=Lib.hid (And.intro hk3 hb3)
 clear hk1 hk2 hb2 hk3 hb3
 go_wp2_with fail
 refine bodyPost_ret (res_st rfl _ _ (w.heap.size+1) #[.int .i64 0, .int .i64 0] rfl (run_loadVar_row _ _ 106 106 _ (0,0) _ HF.out.1 Tryz.underlying106 rfl size106)) rfl ?_
 exact ⟨rfl,HF.out.2⟩
set_option maxHeartbeats 1000000 in
set_option maxRecDepth 100000 in
theorem words_any (n r m:Int) (hR:rightB n r m=true) (w:World) (hg:Glob w):
  Calls Tryz.prog 19 #[plotV n r m] w fun e w'=>e= .returned (.int .i64 (n*(n-1)*(4+11*r)))∧Below w.heap.size w w':=by
 obtain ⟨hn0,hn1,⟨hr0,hr1⟩,hrb,hm0,hm1⟩:=right_of hR
 obtain ⟨w1,hw1,hb1,hk1,hg1,hz1⟩:=plot_box n r m w hg
 have hQ:=right_any n r m (by omega) w1 hg1
 rw [hR] at hQ
 have hS:=fun u (hu:Glob u)=>size_any r (by omega) u hu
 rw [hrb] at hS
 simp only [if_true] at hS
 have HW:=Lib.hid hw1
 have HQ:=Lib.hid hQ
 have HS:=Lib.hid hS
 have HB:=Lib.hid (And.intro hb1 (And.intro hk1 hg1))
 have hmul0:0≤n*(n-1):=Int.mul_nonneg (by omega) (by omega)
 have hmul1:n*(n-1)≤56:=by
  have h1:n*(n-1)≤8*(n-1):=Int.mul_le_mul_of_nonneg_right (by omega) (by omega)
  omega
 have hq0:0≤n*(n-1)*(4+11*r):=Int.mul_nonneg hmul0 (by omega)
 have hq1:n*(n-1)*(4+11*r)≤40000:=by
  have h2:n*(n-1)*(4+11*r)≤56*(4+11*r):=Int.mul_le_mul_of_nonneg_right hmul1 (by omega)
  omega
 generalize hA:n*(n-1)=A at *
 have ew:IntKind.i64.wrap (A*(4+11*r))=A*(4+11*r):=by rw [IntKind.wrap_i64];omega
 have ew2:IntKind.i64.wrap A=A:=by rw [IntKind.wrap_i64];omega
 clear hw1 hb1 hk1 hg1 hz1 hQ hS hR hrb hg
 unfold plotV
 go_enter Tryz.func19,Tryz.ntmps19
 go_wp2_with fail
 rw [←HW.out]
 have hk1:=HB.out.2.1
 have p0:=hk1.cell 0
 have p1:=hk1.cell 1
 have p2:=hk1.cell 2
 simp only [List.getElem?_cons_zero,List.getElem?_cons_succ] at p0 p1 p2
 clear hk1
 go_wp2_with fail
 refine HQ.out.mono ?_
 rintro e w2 ⟨rfl,hb2⟩
 clear p0 p1 p2
 have hk1:=HB.out.2.1.keep (Keep.ofFresh hb2 (B:=0) (F:=fun _=>False)) (fun q=>q)
 have hg2:=HB.out.2.2.fresh hb2
 have p0:=hk1.cell 0
 have p1:=hk1.cell 1
 have p2:=hk1.cell 2
 simp only [List.getElem?_cons_zero,List.getElem?_cons_succ] at p0 p1 p2
 have HB2:=Lib.hid (And.intro hb2 hg2)
 clear hk1 hg2 hb2
 go_wp2_with fail
 have hS:w2.cell? ⟨w.heap.size,0,none⟩=some (.int .i64 n)∧w2.cell? ⟨w.heap.size,1,none⟩=some (.int .i64 r):=⟨p0,p1⟩
 go_region_held3 (fun u=>u.cell? ⟨w.heap.size,0,none⟩=some (.int .i64 n)∧u.cell? ⟨w.heap.size,1,none⟩=some (.int .i64 r)) (first|exact hS|assumption) (first|(go_at_call 43;refine (HS.out _ (HB2.out.2.fresh (Below.refl _ _).drew)).mono ?_;rintro e w3 ⟨rfl,rfl⟩))
 go_wp2_with fail
 go_ret
 refine ⟨?_,(HB.out.1.trans (HB2.out.1.mono HB.out.1.size)).drew⟩
 show Ending.returned (Value.int .i64 (IntKind.i64.wrap (IntKind.i64.wrap (n*IntKind.i64.wrap (n-1))*(4+11*r))))=_
 have er1:IntKind.i64.wrap (n-1)=n-1:=by rw [IntKind.wrap_i64];omega
 rw [er1,hA,ew2,ew]
set_option maxRecDepth 100000 in
theorem gin_any (x y:Int) (w:World):
  Calls Tryz.prog 81 #[.int .i64 x, .int .i64 y] w fun e w'=>e= .returned (.bool (decide (0≤x)&&decide (x<y)))∧w=w':=by
 by_cases h0:0≤x
 ·have e0:decide (0≤x)=true:=by simpa using h0
  rw [e0]
  go_enter Tryz.func81,Tryz.ntmps81
  go_wp2_with fail
  go_ret
  exact ⟨by simp,rfl⟩
 ·have e0:decide (0≤x)=false:=by simpa using h0
  rw [e0]
  go_enter Tryz.func81,Tryz.ntmps81
  go_wp2_with fail
  go_ret
  exact ⟨by simp,rfl⟩
set_option maxRecDepth 100000 in
theorem tin_any (x y:Int) (w:World):
  Calls Tryz.prog 83 #[.int .i64 x, .int .i64 y] w fun e w'=>e= .returned (.bool (decide (0≤x)&&decide (x<y)))∧w=w':=by
 by_cases h0:0≤x
 ·have e0:decide (0≤x)=true:=by simpa using h0
  rw [e0]
  go_enter Tryz.func83,Tryz.ntmps83
  go_wp2_with fail
  go_ret
  exact ⟨by simp,rfl⟩
 ·have e0:decide (0≤x)=false:=by simpa using h0
  rw [e0]
  go_enter Tryz.func83,Tryz.ntmps83
  go_wp2_with fail
  go_ret
  exact ⟨by simp,rfl⟩
theorem span_box (base r:Int) (w:World) (hg:Glob w):∃w1,w1=w.alloc (.cells #[.int .i64 base, .int .i64 r] 106)∧Below w.heap.size w w1∧Blk w1 w.heap.size 106 [.int .i64 base, .int .i64 r]∧Glob w1∧w1.heap.size=w.heap.size+1:=
 ⟨_,rfl,(Below.refl _ _).alloc (Nat.le_refl _) _,Blk.new _ _ _,hg.fresh ((Below.refl _ _).alloc (Nat.le_refl _) _),by simp⟩
set_option maxRecDepth 100000 in
theorem gNew_nil (s p o:Int) (w:World) (hg:Glob w):
  Calls Tryz.prog 45 #[.agg #[.int .i64 0, .int .i64 0], .int .i64 s, .int .i64 p, .int .i64 o] w fun e w'=>e= .returned (.pointer none)∧Below w.heap.size w w':=by
 obtain ⟨w1,hw1,hb1,hk1,hg1,hz1⟩:=span_box 0 0 w hg
 have HS:=Lib.hid (size_any 0 (by omega) w1 hg1)
 have p1:=hk1.cell 1
 simp only [List.getElem?_cons_zero,List.getElem?_cons_succ] at p1
 have HW:=Lib.hid hw1
 have HB:=Lib.hid hb1
 clear hw1 hb1 hk1 hg1 hz1 hg
 go_enter Tryz.func45,Tryz.ntmps45
 go_wp2_with fail
 rw [←HW.out]
 go_wp2_with fail
 refine HS.out.mono ?_
 rintro e w2 ⟨rfl,rfl⟩
 go_wp2_with fail
 go_ret
 exact ⟨rfl,HB.out⟩
set_option maxRecDepth 100000 in
theorem tNew_nil (s p o:Int) (w:World) (hg:Glob w):
  Calls Tryz.prog 46 #[.agg #[.int .i64 0, .int .i64 0], .int .i64 s, .int .i64 p, .int .i64 o] w fun e w'=>e= .returned (.pointer none)∧Below w.heap.size w w':=by
 obtain ⟨w1,hw1,hb1,hk1,hg1,hz1⟩:=span_box 0 0 w hg
 have HS:=Lib.hid (size_any 0 (by omega) w1 hg1)
 have p1:=hk1.cell 1
 simp only [List.getElem?_cons_zero,List.getElem?_cons_succ] at p1
 have HW:=Lib.hid hw1
 have HB:=Lib.hid hb1
 clear hw1 hb1 hk1 hg1 hz1 hg
 go_enter Tryz.func46,Tryz.ntmps46
 go_wp2_with fail
 rw [←HW.out]
 go_wp2_with fail
 refine HS.out.mono ?_
 rintro e w2 ⟨rfl,rfl⟩
 go_wp2_with fail
 go_ret
 exact ⟨rfl,HB.out⟩
end Go.Proofs.YtaaffebnajjfhaaGreatDoor.T
