/- Texts of this proof, merged: Touch1, Touch, GAll. -/
import Derived.Test.YtaaffebnajjfhaaGreatDoorH10
import Derived.Test.YtaaffebnajjfhaaGreatDoorH15
import Derived.Test.YtaaffebnajjfhaaGreatDoorH14
import Derived.Test.YtaaffebnajjfhaaGreatDoorH16
namespace Go.Proofs.YtaaffebnajjfhaaGreatDoor.T
set_option linter.unusedVariables false
set_option linter.unusedSimpArgs false
set_option linter.unusedSectionVars false
open Go.RowKit
section
variable (S:SocL) (n W most:Nat) (vs:Nat→Value) (s:Sc) (p c:Nat) (hc:c<n) (hu:upAt s.g c) (b:Nat) (vf vo vl:Value) (g:Giv) (ok:g.Ok n W) (w:World)
include hc hu ok
set_option maxRecDepth 100000 in
theorem gTouch1 (hpc:g.pc=1) (h:GivAt w b vf vo vl g) (hd:∀k,GivF b vf vo vl k→ ¬SocF S n vs k) (hA:Ahead w) (hp:PortAt w S p c) (hs:SocAt w S n W most vs s.m s.q s.g):
  Calls Tryz.prog 158 #[.pointer (some ⟨b,0,none⟩),port p] w fun e w'=>e= .returned (.int .i64 (s.tch most c (.ep g.peer)).2)∧TchTo w S n W most vs c s (.ep g.peer) w':=by
 have cp:=h.blk.cell 11
 simp only [Giv.cells,List.getElem?_cons_zero,List.getElem?_cons_succ,hpc] at cp
 have hb:=(Below.refl w.heap.size w).drew
 have o1:=ok.room
 have o2:=ok.word
 have o3:=ok.r1
 have o4:=ok.r64
 have hk:∀u,GivAt u b vf vo vl g→u.cell? ⟨b,3,none⟩=some (.int .i64 g.peer):=by
  intro u hu
  exact (by have:=hu.blk.cell 3;simpa [Giv.cells,hpc] using this)
 have hkb:∀u,Below w.heap.size w u→u.cell? ⟨b,3,none⟩=some (.int .i64 g.peer):=fun u hb=>hk u (h.fresh hb)
 have hkt:∀u m q g0,SocTo w S n W most vs m q g0 u→u.cell? ⟨b,3,none⟩=some (.int .i64 g.peer):=fun u m q g0 hT=>hk u (h.soc hd hT)
 have hL:=fun u (hb:Below w.heap.size w u)=>from_soc hb (pEpoch_any S n W most vs s.m s.q s.g p c hc hu g.peer ok.peer u (hp.fresh hb) (hs.fresh hb))
 show Calls _ _ _ _ fun e w'=>e= .returned (.int .i64 (s.g.eps.getD g.peer 0))∧SocTo w S n W most vs (applyAll s.m (s.q c)) (upd s.q c []) s.g w'
 have HL:=Lib.hid hL;clear hL
 have HKB:=Lib.hid hkb;clear hkb
 have HKT:=Lib.hid hkt;clear hkt hk
 have HS:=Lib.hid hs
 clear hs h hp hpc hd hA o1 o2 o3 o4
 have hn:=ahead_epoch p
 have hm:=meth_epoch p
 unfold port
 go_enter Tryz.func158,Tryz.ntmps158
 go_wp2_with fail
 go_region_held3 (fun u=>u.cell? ⟨b,3,none⟩=some (.int .i64 g.peer))
  (first|exact HKB.out _ hb|assumption)
  (first|(go_at_call 180;refine (HL.out _ (by first|assumption|exact hb)).mono ?_;rintro e w3 ⟨rfl,hT3⟩;have hq3:=HKT.out w3 _ _ _ hT3))
 go_wp2_with fail
 all_goals (go_ret;exact ⟨rfl,by assumption⟩)
set_option maxRecDepth 100000 in
theorem gTouch15 (hpc:g.pc=15) (h:GivAt w b vf vo vl g) (hd:∀k,GivF b vf vo vl k→ ¬SocF S n vs k) (hA:Ahead w) (hp:PortAt w S p c) (hs:SocAt w S n W most vs s.m s.q s.g):
  Calls Tryz.prog 158 #[.pointer (some ⟨b,0,none⟩),port p] w fun e w'=>e= .returned (.int .i64 (s.tch most c (.ep g.peer)).2)∧TchTo w S n W most vs c s (.ep g.peer) w':=by
 have cp:=h.blk.cell 11
 simp only [Giv.cells,List.getElem?_cons_zero,List.getElem?_cons_succ,hpc] at cp
 have hb:=(Below.refl w.heap.size w).drew
 have o1:=ok.room
 have o2:=ok.word
 have o3:=ok.r1
 have o4:=ok.r64
 have hk:∀u,GivAt u b vf vo vl g→u.cell? ⟨b,3,none⟩=some (.int .i64 g.peer):=by
  intro u hu
  exact (by have:=hu.blk.cell 3;simpa [Giv.cells,hpc] using this)
 have hkb:∀u,Below w.heap.size w u→u.cell? ⟨b,3,none⟩=some (.int .i64 g.peer):=fun u hb=>hk u (h.fresh hb)
 have hkt:∀u m q g0,SocTo w S n W most vs m q g0 u→u.cell? ⟨b,3,none⟩=some (.int .i64 g.peer):=fun u m q g0 hT=>hk u (h.soc hd hT)
 have hL:=fun u (hb:Below w.heap.size w u)=>from_soc hb (pEpoch_any S n W most vs s.m s.q s.g p c hc hu g.peer ok.peer u (hp.fresh hb) (hs.fresh hb))
 show Calls _ _ _ _ fun e w'=>e= .returned (.int .i64 (s.g.eps.getD g.peer 0))∧SocTo w S n W most vs (applyAll s.m (s.q c)) (upd s.q c []) s.g w'
 have HL:=Lib.hid hL;clear hL
 have HKB:=Lib.hid hkb;clear hkb
 have HKT:=Lib.hid hkt;clear hkt hk
 have HS:=Lib.hid hs
 clear hs h hp hpc hd hA o1 o2 o3 o4
 have hn:=ahead_epoch p
 have hm:=meth_epoch p
 unfold port
 go_enter Tryz.func158,Tryz.ntmps158
 go_wp2_with fail
 go_region_held3 (fun u=>u.cell? ⟨b,3,none⟩=some (.int .i64 g.peer))
  (first|exact HKB.out _ hb|assumption)
  (first|(go_at_call 180;refine (HL.out _ (by first|assumption|exact hb)).mono ?_;rintro e w3 ⟨rfl,hT3⟩;have hq3:=HKT.out w3 _ _ _ hT3))
 go_wp2_with fail
 all_goals (go_ret;exact ⟨rfl,by assumption⟩)
set_option maxRecDepth 100000 in
theorem gTouch5 (hpc:g.pc=5) (h:GivAt w b vf vo vl g) (hd:∀k,GivF b vf vo vl k→ ¬SocF S n vs k) (hA:Ahead w) (hp:PortAt w S p c) (hs:SocAt w S n W most vs s.m s.q s.g):
  Calls Tryz.prog 158 #[.pointer (some ⟨b,0,none⟩),port p] w fun e w'=>e= .returned (.int .i64 (s.tch most c (.ld (g.base+1))).2)∧TchTo w S n W most vs c s (.ld (g.base+1)) w':=by
 have cp:=h.blk.cell 11
 simp only [Giv.cells,List.getElem?_cons_zero,List.getElem?_cons_succ,hpc] at cp
 have hb:=(Below.refl w.heap.size w).drew
 have o1:=ok.room
 have o2:=ok.word
 have o3:=ok.r1
 have o4:=ok.r64
 have hk:∀u,GivAt u b vf vo vl g→u.cell? ⟨b,11,none⟩=some (.int .i64 5):=by
  intro u hu
  exact (by have:=hu.blk.cell 11;simpa [Giv.cells,hpc] using this)
 have hkb:∀u,Below w.heap.size w u→u.cell? ⟨b,11,none⟩=some (.int .i64 5):=fun u hb=>hk u (h.fresh hb)
 have hkt:∀u m q g0,SocTo w S n W most vs m q g0 u→u.cell? ⟨b,11,none⟩=some (.int .i64 5):=fun u m q g0 hT=>hk u (h.soc hd hT)
 have e1:((g.base:Int)+2-1)=((g.base+1:Nat):Int):=by omega
 have hP0:=fun u (hb:Below w.heap.size w u)=>gPlace_of b vf vo vl g 2 0 0 _ u (h.fresh hb) (plotAt_one g.base g.ring 2 (by omega) (by omega) (by omega) u)
 rw [e1] at hP0
 have hP:=fun u (hb:Below w.heap.size w u)=>from_below hb (hP0 u hb)
 clear hP0
 have hL:=fun u (hb:Below w.heap.size w u)=>from_below hb (pLoad_any S n W most vs s.m s.q s.g p c hc hu (g.base+1) (by omega) u (hp.fresh hb) (hs.fresh hb))
 show Calls _ _ _ _ fun e w'=>e= .returned (.int .i64 (seen s.m (s.q c) (g.base+1)))∧SocTo w S n W most vs s.m s.q s.g w'
 generalize seen s.m (s.q c) (g.base+1)=x at *
 generalize g.base+1=a at *
 have HL:=Lib.hid hL;clear hL
 have HP:=Lib.hid hP;clear hP
 have HKB:=Lib.hid hkb;clear hkb
 have HKT:=Lib.hid hkt;clear hkt hk
 have HS:=Lib.hid hs
 clear hs h hp hpc hd hA o1 o2 o3 o4 e1
 have hn:=ahead_load p
 have hm:=meth_load p
 unfold port
 go_enter Tryz.func158,Tryz.ntmps158
 go_wp2_with fail
 go_region_held3 (fun u=>u.cell? ⟨b,11,none⟩=some (.int .i64 5))
  (first|exact HKB.out _ hb|assumption)
  (first|(go_at_call 165;refine (HP.out _ (by first|assumption|exact hb)).mono ?_;rintro e w1 ⟨rfl,hB1⟩;have hq1:=HKB.out w1 hB1)|(go_at_call 183;refine (HL.out _ (by first|assumption|exact hb)).mono ?_;rintro e w3 ⟨rfl,hB3⟩;have hq3:=HKB.out w3 hB3))
 go_wp2_with fail
 all_goals (go_ret;exact ⟨rfl,(SocTo.refl HS.out).fresh (by assumption)⟩)
set_option maxRecDepth 100000 in
theorem gTouch6 (hpc:g.pc=6) (h:GivAt w b vf vo vl g) (hd:∀k,GivF b vf vo vl k→ ¬SocF S n vs k) (hA:Ahead w) (hp:PortAt w S p c) (hs:SocAt w S n W most vs s.m s.q s.g):
  Calls Tryz.prog 158 #[.pointer (some ⟨b,0,none⟩),port p] w fun e w'=>e= .returned (.int .i64 (s.tch most c (.ld (g.base+3))).2)∧TchTo w S n W most vs c s (.ld (g.base+3)) w':=by
 have cp:=h.blk.cell 11
 simp only [Giv.cells,List.getElem?_cons_zero,List.getElem?_cons_succ,hpc] at cp
 have hb:=(Below.refl w.heap.size w).drew
 have o1:=ok.room
 have o2:=ok.word
 have o3:=ok.r1
 have o4:=ok.r64
 have hk:∀u,GivAt u b vf vo vl g→u.cell? ⟨b,11,none⟩=some (.int .i64 6):=by
  intro u hu
  exact (by have:=hu.blk.cell 11;simpa [Giv.cells,hpc] using this)
 have hkb:∀u,Below w.heap.size w u→u.cell? ⟨b,11,none⟩=some (.int .i64 6):=fun u hb=>hk u (h.fresh hb)
 have hkt:∀u m q g0,SocTo w S n W most vs m q g0 u→u.cell? ⟨b,11,none⟩=some (.int .i64 6):=fun u m q g0 hT=>hk u (h.soc hd hT)
 have e1:((g.base:Int)+4-1)=((g.base+3:Nat):Int):=by omega
 have hP0:=fun u (hb:Below w.heap.size w u)=>gPlace_of b vf vo vl g 4 0 0 _ u (h.fresh hb) (plotAt_one g.base g.ring 4 (by omega) (by omega) (by omega) u)
 rw [e1] at hP0
 have hP:=fun u (hb:Below w.heap.size w u)=>from_below hb (hP0 u hb)
 clear hP0
 have hL:=fun u (hb:Below w.heap.size w u)=>from_below hb (pLoad_any S n W most vs s.m s.q s.g p c hc hu (g.base+3) (by omega) u (hp.fresh hb) (hs.fresh hb))
 show Calls _ _ _ _ fun e w'=>e= .returned (.int .i64 (seen s.m (s.q c) (g.base+3)))∧SocTo w S n W most vs s.m s.q s.g w'
 generalize seen s.m (s.q c) (g.base+3)=x at *
 generalize g.base+3=a at *
 have HL:=Lib.hid hL;clear hL
 have HP:=Lib.hid hP;clear hP
 have HKB:=Lib.hid hkb;clear hkb
 have HKT:=Lib.hid hkt;clear hkt hk
 have HS:=Lib.hid hs
 clear hs h hp hpc hd hA o1 o2 o3 o4 e1
 have hn:=ahead_load p
 have hm:=meth_load p
 unfold port
 go_enter Tryz.func158,Tryz.ntmps158
 go_wp2_with fail
 go_region_held3 (fun u=>u.cell? ⟨b,11,none⟩=some (.int .i64 6))
  (first|exact HKB.out _ hb|assumption)
  (first|(go_at_call 165;refine (HP.out _ (by first|assumption|exact hb)).mono ?_;rintro e w1 ⟨rfl,hB1⟩;have hq1:=HKB.out w1 hB1)|(go_at_call 183;refine (HL.out _ (by first|assumption|exact hb)).mono ?_;rintro e w3 ⟨rfl,hB3⟩;have hq3:=HKB.out w3 hB3))
 go_wp2_with fail
 all_goals (go_ret;exact ⟨rfl,(SocTo.refl HS.out).fresh (by assumption)⟩)
set_option maxRecDepth 100000 in
theorem gTouch14 (hpc:g.pc=14) (h:GivAt w b vf vo vl g) (hd:∀k,GivF b vf vo vl k→ ¬SocF S n vs k) (hA:Ahead w) (hp:PortAt w S p c) (hs:SocAt w S n W most vs s.m s.q s.g):
  Calls Tryz.prog 158 #[.pointer (some ⟨b,0,none⟩),port p] w fun e w'=>e= .returned (.int .i64 (s.tch most c (.kick g.peer)).2)∧TchTo w S n W most vs c s (.kick g.peer) w':=by
 have cp:=h.blk.cell 11
 simp only [Giv.cells,List.getElem?_cons_zero,List.getElem?_cons_succ,hpc] at cp
 have hb:=(Below.refl w.heap.size w).drew
 have o1:=ok.room
 have o2:=ok.word
 have o3:=ok.r1
 have o4:=ok.r64
 have hk:∀u,GivAt u b vf vo vl g→u.cell? ⟨b,3,none⟩=some (.int .i64 g.peer):=by
  intro u hu
  exact (by have:=hu.blk.cell 3;simpa [Giv.cells,hpc] using this)
 have hkb:∀u,Below w.heap.size w u→u.cell? ⟨b,3,none⟩=some (.int .i64 g.peer):=fun u hb=>hk u (h.fresh hb)
 have hkt:∀u m q g0,SocTo w S n W most vs m q g0 u→u.cell? ⟨b,3,none⟩=some (.int .i64 g.peer):=fun u m q g0 hT=>hk u (h.soc hd hT)
 have hL:=fun u (hb:Below w.heap.size w u)=>from_soc hb (pKick_any S n W most vs s.m s.q s.g p c hc hu g.peer ok.peer u (hp.fresh hb) (hs.fresh hb))
 show Calls _ _ _ _ fun e w'=>e= .returned (.int .i64 0)∧SocTo w S n W most vs (applyAll s.m (s.q c)) (upd s.q c []) s.g w'
 have HL:=Lib.hid hL;clear hL
 have HKB:=Lib.hid hkb;clear hkb
 have HKT:=Lib.hid hkt;clear hkt hk
 have HS:=Lib.hid hs
 clear hs h hp hpc hd hA o1 o2 o3 o4
 have hn:=ahead_kick p
 have hm:=meth_kick p
 unfold port
 go_enter Tryz.func158,Tryz.ntmps158
 go_wp2_with fail
 go_region_held3 (fun u=>u.cell? ⟨b,3,none⟩=some (.int .i64 g.peer))
  (first|exact HKB.out _ hb|assumption)
  (first|(go_at_call 182;refine (HL.out _ (by first|assumption|exact hb)).mono ?_;rintro e w3 ⟨rfl,hT3⟩;have hq3:=HKT.out w3 _ _ _ hT3))
 go_wp2_with fail
 all_goals (go_ret;exact ⟨rfl,by assumption⟩)
set_option maxRecDepth 100000 in
theorem gTouch2 (hpc:g.pc=2) (h:GivAt w b vf vo vl g) (hd:∀k,GivF b vf vo vl k→ ¬SocF S n vs k) (hA:Ahead w) (hp:PortAt w S p c) (hs:SocAt w S n W most vs s.m s.q s.g):
  Calls Tryz.prog 158 #[.pointer (some ⟨b,0,none⟩),port p] w fun e w'=>e= .returned (.int .i64 (s.tch most c (.st (g.base+2) (0))).2)∧TchTo w S n W most vs c s (.st (g.base+2) (0)) w':=by
 have cp:=h.blk.cell 11
 simp only [Giv.cells,List.getElem?_cons_zero,List.getElem?_cons_succ,hpc] at cp
 have hb:=(Below.refl w.heap.size w).drew
 have o1:=ok.room
 have o2:=ok.word
 have o3:=ok.r1
 have o4:=ok.r64
 have hk:∀u,GivAt u b vf vo vl g→u.cell? ⟨b,11,none⟩=some (.int .i64 2):=by
  intro u hu
  exact (by have:=hu.blk.cell 11;simpa [Giv.cells,hpc] using this)
 have hkb:∀u,Below w.heap.size w u→u.cell? ⟨b,11,none⟩=some (.int .i64 2):=fun u hb=>hk u (h.fresh hb)
 have hkt:∀u m q g0,SocTo w S n W most vs m q g0 u→u.cell? ⟨b,11,none⟩=some (.int .i64 2):=fun u m q g0 hT=>hk u (h.soc hd hT)
 have e1:((g.base:Int)+3-1)=((g.base+2:Nat):Int):=by omega
 have hP0:=fun u (hb:Below w.heap.size w u)=>gPlace_of b vf vo vl g 3 0 0 _ u (h.fresh hb) (plotAt_one g.base g.ring 3 (by omega) (by omega) (by omega) u)
 rw [e1] at hP0
 have hP:=fun u (hb:Below w.heap.size w u)=>from_below hb (hP0 u hb)
 clear hP0
 have hL:=fun u (hb:Below w.heap.size w u)=>from_soc hb (pStore_any S n W most vs s.m s.q s.g p c hc hu (g.base+2) (0) (by omega) (by omega) u (hp.fresh hb) (hs.fresh hb))
 show Calls _ _ _ _ fun e w'=>e= .returned (.int .i64 0)∧SocTo w S n W most vs (stM most s.m (s.q c)) (upd s.q c (stQ most (s.q c) (g.base+2,(0)))) s.g w'
 generalize hag:g.base+2=a at *
 have HL:=Lib.hid hL;clear hL
 have HP:=Lib.hid hP;clear hP
 have HKB:=Lib.hid hkb;clear hkb
 have HKT:=Lib.hid hkt;clear hkt hk
 have HS:=Lib.hid hs
 clear hs h hp hpc hd hA o1 o2 o3 o4 e1 hag
 have hn:=ahead_store p
 have hm:=meth_store p
 unfold port
 go_enter Tryz.func158,Tryz.ntmps158
 go_wp2_with fail
 go_region_held3 (fun u=>u.cell? ⟨b,11,none⟩=some (.int .i64 2))
  (first|exact HKB.out _ hb|assumption)
  (first|(go_at_call 165;refine (HP.out _ (by first|assumption|exact hb)).mono ?_;rintro e w1 ⟨rfl,hB1⟩;have hq1:=HKB.out w1 hB1)|(go_at_call 184;refine (HL.out _ (by first|assumption|exact hb)).mono ?_;rintro e w3 ⟨rfl,hT3⟩;have hq3:=HKT.out w3 _ _ _ hT3))
 go_wp2_with fail
 all_goals (go_ret;exact ⟨rfl,by assumption⟩)
end
section
variable (S:SocL) (n W most:Nat) (vs:Nat→Value) (s:Sc) (p c:Nat) (hc:c<n) (hu:upAt s.g c) (b:Nat) (vf vo vl:Value) (g:Giv) (ok:g.Ok n W) (w:World)
include hc hu ok
set_option maxRecDepth 100000 in
theorem gTouchF (hpc:g.pc=4∨g.pc=11∨g.pc=13) (h:GivAt w b vf vo vl g) (hp:PortAt w S p c) (hs:SocAt w S n W most vs s.m s.q s.g):
  Calls Tryz.prog 158 #[.pointer (some ⟨b,0,none⟩),port p] w fun e w'=>e= .returned (.int .i64 (s.tch most c .fence).2)∧TchTo w S n W most vs c s .fence w':=by
 have c11:=h.blk.cell 11
 simp only [Giv.cells,List.getElem?_cons_zero,List.getElem?_cons_succ] at c11
 have hL:=pFence_any S n W most vs s.m s.q s.g p c hc hu w hp hs
 show Calls _ _ _ _ fun e w'=>e= .returned (.int .i64 0)∧SocTo w S n W most vs (applyAll s.m (s.q c)) (upd s.q c []) s.g w'
 have hn:=ahead_fence p
 have hm:=meth_fence p
 have HL:=Lib.hid hL;clear hL h hp hs
 unfold port
 rcases hpc with e|e|e <;>
 ·rw [e] at c11
  clear e
  go_enter Tryz.func158,Tryz.ntmps158
  go_wp2_with fail
  refine HL.out.mono ?_
  rintro e w' ⟨rfl,hT⟩
  have HT:=Lib.hid hT;clear hT
  go_wp2_with fail
  go_ret
  exact ⟨rfl,HT.out⟩
theorem gTouch_any (h1:1≤g.pc) (h:GivAt w b vf vo vl g) (hd:∀k,GivF b vf vo vl k→ ¬SocF S n vs k) (hA:Ahead w) (hp:PortAt w S p c) (hs:SocAt w S n W most vs s.m s.q s.g):
  Calls Tryz.prog 158 #[.pointer (some ⟨b,0,none⟩),port p] w fun e w'=>e= .returned (.int .i64 (s.tch most c g.tch).2)∧TchTo w S n W most vs c s g.tch w':=by
 have hpc:=ok.pc
 have:g.pc=1∨g.pc=2∨g.pc=3∨g.pc=4∨g.pc=5∨g.pc=6∨g.pc=7∨g.pc=8∨g.pc=9∨g.pc=10∨g.pc=11∨g.pc=12∨g.pc=13∨g.pc=14∨g.pc=15:=by omega
 rcases this with e|e|e|e|e|e|e|e|e|e|e|e|e|e|e
 ·rw [show g.tch= .ep g.peer by simp [Giv.tch,e]];exact gTouch1 S n W most vs s p c hc hu b vf vo vl g ok w e h hd hA hp hs
 ·rw [show g.tch= .st (g.base+2) 0 by simp [Giv.tch,e]];exact gTouch2 S n W most vs s p c hc hu b vf vo vl g ok w e h hd hA hp hs
 ·rw [show g.tch= .st g.base g.ep.toNat by simp [Giv.tch,e]];exact gTouch3 S n W most vs s p c hc hu b vf vo vl g ok w e h hd hA hp hs
 ·rw [show g.tch= .fence by simp [Giv.tch,e]];exact gTouchF S n W most vs s p c hc hu b vf vo vl g ok w (.inl e) h hp hs
 ·rw [show g.tch= .ld (g.base+1) by simp [Giv.tch,e]];exact gTouch5 S n W most vs s p c hc hu b vf vo vl g ok w e h hd hA hp hs
 ·rw [show g.tch= .ld (g.base+3) by simp [Giv.tch,e]];exact gTouch6 S n W most vs s p c hc hu b vf vo vl g ok w e h hd hA hp hs
 ·rw [show g.tch= .ld (g.base+4+1*g.ring+1*(g.tail%g.ring)+0) by unfold Giv.tch;rw [e];rfl];exact gTouch7 S n W most vs s p c hc hu b vf vo vl g ok w e h hd hA hp hs
 ·rw [show g.tch= .st (g.base+4+3*g.ring+8*g.d+g.i) (g.load.getD g.i 0) by unfold Giv.tch;rw [e];rfl];exact gTouch8 S n W most vs s p c hc hu b vf vo vl g ok w e h hd hA hp hs
 ·rw [show g.tch= .st (g.base+4+2*g.ring+1*g.d+0) g.load.length by unfold Giv.tch;rw [e];rfl];exact gTouch9 S n W most vs s p c hc hu b vf vo vl g ok w e h hd hA hp hs
 ·rw [show g.tch= .st (g.base+4+0*g.ring+1*(g.next%g.ring)+0) g.d by unfold Giv.tch;rw [e];rfl];exact gTouch10 S n W most vs s p c hc hu b vf vo vl g ok w e h hd hA hp hs
 ·rw [show g.tch= .fence by simp [Giv.tch,e]];exact gTouchF S n W most vs s p c hc hu b vf vo vl g ok w (.inr (.inl e)) h hp hs
 ·rw [show g.tch= .st (g.base+2) ((g.next+1)%65536) by simp [Giv.tch,e]];exact gTouch12 S n W most vs s p c hc hu b vf vo vl g ok w e h hd hA hp hs
 ·rw [show g.tch= .fence by simp [Giv.tch,e]];exact gTouchF S n W most vs s p c hc hu b vf vo vl g ok w (.inr (.inr e)) h hp hs
 ·rw [show g.tch= .kick g.peer by simp [Giv.tch,e]];exact gTouch14 S n W most vs s p c hc hu b vf vo vl g ok w e h hd hA hp hs
 ·rw [show g.tch= .ep g.peer by simp [Giv.tch,e]];exact gTouch15 S n W most vs s p c hc hu b vf vo vl g ok w e h hd hA hp hs
end
def SocAll (S:SocL) (n:Nat) (vs:Nat→Value) (k:Nat):Prop:=k=S.soc∨k=S.B.bus∨k=S.B.ram∨k=S.B.bufs∨k=S.X.box∨SocF S n vs k
structure Moved (w w':World) (A A' B B':Nat→Prop):Prop where
 keep:Keep (fun k=>A k∨B k) w w'
 oa:∀k,A' k→A k∨w.heap.size≤k
 ob:∀k,B' k→B k∨w.heap.size≤k
 dis:∀k,A' k→ ¬B' k
section
variable {w w':World} {S:SocL} {n W most:Nat} {vs:Nat→Value} {m:Nat→Nat} {q:Nat→List (Nat × Nat)} {g:Gates.Gt}
theorem SocAt.keepAll (h:SocAt w S n W most vs m q g) {F:Nat→Prop} (hk:Keep F w w') (hF:∀k,SocAll S n vs k→ ¬F k):SocAt w' S n W most vs m q g:=by
 obtain ⟨k,hl,hlo⟩:=h.locks
 have hS:∀k,SocF S n vs k→ ¬F k:=fun k hk=>hF k (.inr (.inr (.inr (.inr (.inr hk)))))
 refine ⟨h.blk.keep hk (hF _ (.inl rfl)), ?_, ?_,⟨k,Blk.keep (cs:=k.cells) hl hk (hS _ (.inl rfl)),hlo⟩,Blk.keep (cs:=g.cells) h.gate hk (hS _ (.inr (.inl rfl))),h.ok,h.cores,h.n1,h.W1,h.apart⟩
 ·have h0:0<n:=h.n1
  exact h.bus.keep hk (hF _ (.inr (.inl rfl))) (hF _ (.inr (.inr (.inl rfl)))) (hS _ (.inr (.inr (.inl ⟨0,h0, .inl rfl⟩)))) (hF _ (.inr (.inr (.inr (.inl rfl)))))
   (fun i hi=>hS _ (.inr (.inr (.inl ⟨i,hi, .inr (.inl rfl)⟩)))) (fun i hi k hk=>hS _ (.inr (.inr (.inl ⟨i,hi, .inr (.inr hk)⟩))))
 ·exact h.box.keep hk (hF _ (.inr (.inr (.inr (.inr (.inl rfl)))))) (hS _ (.inr (.inr (.inr (.inl rfl))))) (fun i hi=>⟨hS _ (.inr (.inr (.inr (.inr ⟨i,hi, .inl rfl⟩)))),hS _ (.inr (.inr (.inr (.inr ⟨i,hi, .inr rfl⟩))))⟩)
theorem SocAt.lt (h:SocAt w S n W most vs m q g) (k:Nat) (hk:SocAll S n vs k):k<w.heap.size:=by
 obtain ⟨kk,hl,hlo⟩:=h.locks
 rcases hk with rfl|rfl|rfl|rfl|rfl|rfl|rfl|⟨c,hc,rfl|rfl|e⟩|rfl|⟨i,hi,rfl|rfl⟩
 ·exact h.blk.lt
 ·exact h.bus.bus.lt
 ·exact h.bus.ram.blk.lt
 ·exact h.bus.bufs.lt
 ·exact h.box.box.lt
 ·exact Blk.lt (cs:=kk.cells) hl
 ·exact Blk.lt (cs:=g.cells) h.gate
 ·exact h.bus.ram.row.lt
 ·exact (h.bus.buf c hc).blk.lt
 ·exact (h.bus.buf c hc).row.lt k e
 ·obtain ⟨cs,hall,_⟩:=h.box.all
  exact hall.lt
 ·obtain ⟨f,hh,hL⟩:=h.box.lane i hi
  exact hL.blk.lt
 ·obtain ⟨f,hh,hL⟩:=h.box.lane i hi
  obtain ⟨xs,hx,_⟩:=hL.row
  exact hx.lt
theorem SocTo.all {m':Nat→Nat} {q':Nat→List (Nat × Nat)} {g':Gates.Gt} (h:SocTo w S n W most vs m' q' g' w'):∃vs',SocAt w' S n W most vs' m' q' g'∧Keep (SocAll S n vs) w w'∧∀k,SocAll S n vs' k→SocAll S n vs k∨w.heap.size≤k:=by
 obtain ⟨vs',h1,h2,h3⟩:=h
 refine ⟨vs',h1,h2.mono (fun k _ e=> .inr (.inr (.inr (.inr (.inr e))))),fun k hk=> ?_⟩
 rcases hk with e|e|e|e|e|e
 ·exact .inl (.inl e)
 ·exact .inl (.inr (.inl e))
 ·exact .inl (.inr (.inr (.inl e)))
 ·exact .inl (.inr (.inr (.inr (.inl e))))
 ·exact .inl (.inr (.inr (.inr (.inr (.inl e)))))
 ·exact (h3 k e).imp (fun e=> .inr (.inr (.inr (.inr (.inr e))))) id
end
section
variable (S:SocL) (n W most:Nat) (vs:Nat→Value) (s:Sc) (p c:Nat) (hc:c<n) (hu:upAt s.g c) (b:Nat) (vf vo vl:Value) (g:Giv) (ok:g.Ok n W) (w:World)
include hc hu ok
set_option maxRecDepth 100000 in
theorem gStep_any (h1:g.pc≠0) (h:GivAt w b vf vo vl g) (hd:∀k,GivF b vf vo vl k→ ¬SocAll S n vs k) (hA:Ahead w) (hp:PortAt w S p c) (hs:SocAt w S n W most vs s.m s.q s.g):
  Calls Tryz.prog 157 #[.pointer (some ⟨b,0,none⟩),port p] w fun e w'=>e= .returned (.tuple #[.bool (g.go (s.tch most c g.tch).2).2.1, .int .i64 (g.go (s.tch most c g.tch).2).2.2])∧∃w1,TchTo w S n W most vs c s g.tch w1∧GivTo w1 b vf vo vl (g.go (s.tch most c g.tch).2).1 w':=by
 have hd':∀k,GivF b vf vo vl k→ ¬SocF S n vs k:=fun k hk e=>hd k hk (.inr (.inr (.inr (.inr (.inr e)))))
 have hT:=gTouch_any S n W most vs s p c hc hu b vf vo vl g ok w (by omega) h hd' hA hp hs
 have hg:∀w',TchTo w S n W most vs c s g.tch w'→GivAt w' b vf vo vl g:=fun w' hT=>h.soc hd' hT
 generalize (s.tch most c g.tch).2=x at *
 generalize hTT:TchTo w S n W most vs c s g.tch=T at *
 clear hTT
 have hpc:=ok.pc
 have hm:=ok.many
 have hr:=ok.r64
 have hcase:g.pc=1∨g.pc=2∨g.pc=3∨g.pc=4∨g.pc=5∨g.pc=6∨g.pc=7∨g.pc=8∨g.pc=9∨g.pc=10∨g.pc=11∨g.pc=12∨g.pc=13∨g.pc=14∨g.pc=15:=by omega
 rcases hcase with e|e|e|e|e|e|e|e|e|e|e|e|e|e|e
 ·rw [show g.go x=(g.asked x,false,0) by simp [Giv.go,e]];exact gStep1 b vf vo vl g w _ x T h hT hg e
 ·rw [show g.go x=({ g with pc:=2+1 },false,0) by simp [Giv.go,e]];exact gStep2 b vf vo vl g w _ x T h hT hg e
 ·rw [show g.go x=({ g with pc:=3+1 },false,0) by simp [Giv.go,e]];exact gStep3 b vf vo vl g w _ x T h hT hg e
 ·rw [show g.go x=(g.first,true,8) by simp [Giv.go,e]];exact gStep4 b vf vo vl g w _ x T h hT hg e ok.r1 ok.r64
 ·by_cases hx:x=g.ep
  ·rw [show g.go x=({ g with linked:=true,pc:=6 },false,0) by simp [Giv.go,e,hx]];exact gStep5y b vf vo vl g w _ x T h hT hg e hx
  ·rw [show g.go x=({ g with pc:=0 },true,9) by simp [Giv.go,e,hx]];exact gStep5n b vf vo vl g w _ x T h hT hg e hx
 ·have hl0:(x-(g.tail:Int))%65536=((((x-(g.tail:Int))%65536).toNat:Nat):Int):=by omega
  generalize hl:((x-(g.tail:Int))%65536).toNat=l at *
  by_cases hlt:g.out.length<l
  ·rw [show g.go x=({ g with left:=l,pc:=15,answer:=10 },false,0) by simp [Giv.go,e,hl,hlt,Giv.corrupt]];exact gStep6c b vf vo vl g w _ x T h hT hg e l hl0 hlt
  ·by_cases h0:0<l
   ·rw [show g.go x=({ g with left:=l,pc:=7,i:=0 },false,0) by simp [Giv.go,e,hl,hlt,Giv.roomy,h0]];exact gStep6l b vf vo vl g w _ x T h hT hg e l hl0 (by omega) h0
   ·have hl00:l=0:=by omega
    subst hl00
    cases hfr:g.free with
    | nil=>rw [show g.go x=({ g with left:=0,pc:=15,i:=0,answer:=5 },false,0) by simp [Giv.go,e,hl,Giv.roomy,hfr]];exact gStep6f b vf vo vl g w _ x T h hT hg e (by simpa using hl0) hfr
    | cons d r=>
     by_cases hll:g.load.length=0
     ·rw [show g.go x=({ ({ g with left:=0 }:Giv) with pc:=9,i:=0,d:=d,free:=r,out:=g.out ++ [d] },false,0) by simp [Giv.go,e,hl,Giv.roomy,hfr,Giv.words,hll]]
      exact gStep6s b vf vo vl g w _ x T h hT hg e (by simpa using hl0) { g with left:=0 } rfl d r hfr (by omega) hll
     ·rw [show g.go x=({ ({ g with left:=0 }:Giv) with pc:=8,i:=0,d:=d,free:=r,out:=g.out ++ [d] },false,0) by simp [Giv.go,e,hl,Giv.roomy,hfr,Giv.words,hll]]
      exact gStep6w b vf vo vl g w _ x T h hT hg e (by simpa using hl0) { g with left:=0 } rfl d r hfr (by omega) (by omega)
 ·cases hx:g.out.findIdx? (fun (y:Nat)=>(y:Int) == x) with
  | none=>rw [show g.go x=(g.corrupt,false,0) by simp [Giv.go,e,hx]];exact gStep7c b vf vo vl g w _ x T h hT hg e hx (by omega)
  | some k=>
   have hy:∃y:Nat,x=(y:Int):=by
    obtain ⟨hk,hp,_⟩:=List.findIdx?_eq_some_iff_getElem.1 hx
    exact ⟨g.out[k],(beq_iff_eq.1 hp).symm⟩
   obtain ⟨y,rfl⟩:=hy
   have hgo:g.go (y:Int)=((g.back k y).roomy,false,0):=by simp [Giv.go,e,hx]
   by_cases hl:0<(g.back k y).left
   ·rw [hgo,show (g.back k y).roomy= { (g.back k y) with pc:=7,i:=0 } by simp [Giv.roomy,hl]]
    exact gStep7l b vf vo vl g w _ _ T h hT hg e y k rfl hx (ok.leftp e) ok.left (by omega) (g.back k y) rfl hl
   ·have hl0:(g.back k y).left=0:=by omega
    cases hfr:(g.back k y).free with
    | nil=>
     have h1:=congrArg List.length hfr
     have e2:(g.back k y).free.length=g.free.length+1:=List.length_append
     rw [e2,List.length_nil] at h1
     omega
    | cons d r=>
     have hlo:(g.back k y).load=g.load:=rfl
     by_cases hll:g.load.length=0
     ·rw [hgo,show (g.back k y).roomy= { (g.back k y) with pc:=9,i:=0,d:=d,free:=r,out:=(g.back k y).out ++ [d] } by simp [Giv.roomy,hl0,hfr,Giv.words,hlo,hll]]
      exact gStep7s b vf vo vl g w _ _ T h hT hg e y k rfl hx (ok.leftp e) ok.left (by omega) (g.back k y) rfl hl0 d r hfr hll
     ·rw [hgo,show (g.back k y).roomy= { (g.back k y) with pc:=8,i:=0,d:=d,free:=r,out:=(g.back k y).out ++ [d] } by simp [Giv.roomy,hl0,hfr,Giv.words,hlo,hll]]
      exact gStep7w b vf vo vl g w _ _ T h hT hg e y k rfl hx (ok.leftp e) ok.left (by omega) (g.back k y) rfl hl0 d r hfr (by omega)
 ·by_cases hll:g.load.length≤g.i+1
  ·rw [show g.go x=({ g with i:=g.i+1,pc:=9 },false,0) by simp [Giv.go,e,Giv.words,hll]];exact gStep8s b vf vo vl g w _ x T h hT hg e ok.i hll
  ·rw [show g.go x=({ g with i:=g.i+1,pc:=8 },false,0) by simp [Giv.go,e,Giv.words,hll]];exact gStep8w b vf vo vl g w _ x T h hT hg e ok.i (by omega)
 ·rw [show g.go x=({ g with pc:=9+1 },false,0) by simp [Giv.go,e]];exact gStep9 b vf vo vl g w _ x T h hT hg e
 ·rw [show g.go x=({ g with pc:=10+1 },false,0) by simp [Giv.go,e]];exact gStep10 b vf vo vl g w _ x T h hT hg e
 ·rw [show g.go x=({ g with pc:=11+1 },false,0) by simp [Giv.go,e]];exact gStep11 b vf vo vl g w _ x T h hT hg e
 ·rw [show g.go x=({ g with pc:=12+1 },false,0) by simp [Giv.go,e]];exact gStep12 b vf vo vl g w _ x T h hT hg e
 ·rw [show g.go x=({ g with pc:=13+1 },false,0) by simp [Giv.go,e]];exact gStep13 b vf vo vl g w _ x T h hT hg e
 ·rw [show g.go x=({ g with pc:=15,answer:=0 },false,0) by simp [Giv.go,e]];exact gStep14 b vf vo vl g w _ x T h hT hg e
 ·rw [show g.go x=((g.over x).1,true,(g.over x).2) by simp [Giv.go,e]];exact gStep15 b vf vo vl g w _ x T h hT hg e
theorem gDo_any (h1:g.pc≠0) (h:GivAt w b vf vo vl g) (hd:∀k,GivF b vf vo vl k→ ¬SocAll S n vs k) (hA:Ahead w) (hp:PortAt w S p c) (hs:SocAt w S n W most vs s.m s.q s.g):
  Calls Tryz.prog 157 #[.pointer (some ⟨b,0,none⟩),port p] w fun e w'=>e= .returned (.tuple #[.bool (g.go (s.tch most c g.tch).2).2.1, .int .i64 (g.go (s.tch most c g.tch).2).2.2])∧
   ∃vs' vf' vo',SocAt w' S n W most vs' (s.tch most c g.tch).1.m (s.tch most c g.tch).1.q (s.tch most c g.tch).1.g∧GivAt w' b vf' vo' vl (g.go (s.tch most c g.tch).2).1∧Moved w w' (SocAll S n vs) (SocAll S n vs') (GivF b vf vo vl) (GivF b vf' vo' vl):=by
 refine (gStep_any S n W most vs s p c hc hu b vf vo vl g ok w h1 h hd hA hp hs).mono ?_
 rintro e w' ⟨he,w1,hT,vf',vo',hG⟩
 obtain ⟨vs',a1,a2,a3⟩:=hT.all
 have hgl:∀k,GivF b vf' vo' vl k→ ¬SocAll S n vs' k:=by
  intro k hk e
  have hlt:=a1.lt k e
  rcases hG.own k hk with h2|h2
  ·rcases a3 k e with h3|h3
   ·exact hd k h2 h3
   ·have:=h.lt k h2;omega
  ·omega
 have hg0:∀k,SocAll S n vs' k→ ¬GivF b vf vo vl k:=by
  intro k hk e
  rcases a3 k hk with h3|h3
  ·exact hd k e h3
  ·have:=h.lt k e;omega
 refine ⟨he,vs',vf',vo',a1.keepAll hG.keep hg0,hG.giv,⟨(a2.mono (fun k _ e=> .inl e)).trans hG.keep (fun k _ e=> .inr e),a3,fun k hk=> ?_,fun k hk e=>hgl k e hk⟩⟩
 rcases hG.own k hk with h2|h2
 ·exact .inl h2
 ·exact .inr (Nat.le_trans a2.size h2)
end
end Go.Proofs.YtaaffebnajjfhaaGreatDoor.T
