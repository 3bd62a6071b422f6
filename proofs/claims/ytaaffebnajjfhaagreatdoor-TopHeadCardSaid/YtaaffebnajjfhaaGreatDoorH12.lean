/- Texts of this proof, merged: TTouch2, TTouch3, TStepB. -/
import Derived.Test.YtaaffebnajjfhaaGreatDoorH11
namespace Go.Proofs.YtaaffebnajjfhaaGreatDoor.T
set_option linter.unusedVariables false
set_option linter.unusedSimpArgs false
set_option linter.unusedSectionVars false
open Go.RowKit
section
variable (S:SocL) (n W most:Nat) (vs:Nat→Value) (s:Sc) (p c:Nat) (hc:c<n) (hu:upAt s.g c) (b tb:Nat) (vl:Value) (g:Tak) (ok:g.Ok n W) (w:World)
include hc hu ok
set_option maxRecDepth 100000 in
theorem tTouch7 (hpc:g.pc=7) (h:TakAt w b tb vl g) (hd:∀k,TakF b tb vl k→ ¬SocF S n vs k) (hA:Ahead w) (hp:PortAt w S p c) (hs:SocAt w S n W most vs s.m s.q s.g):
  Calls Tryz.prog 170 #[.pointer (some ⟨b,0,none⟩),port p] w fun e w'=>e= .returned (.int .i64 (s.tch most c (.ld (g.base+4+0*g.ring+1*(g.head%g.ring)+0))).2)∧TchTo w S n W most vs c s (.ld (g.base+4+0*g.ring+1*(g.head%g.ring)+0)) w':=by
 have cp:=h.blk.cell 10
 simp only [Tak.cells,List.getElem?_cons_zero,List.getElem?_cons_succ,hpc] at cp
 have hb:=(Below.refl w.heap.size w).drew
 have o1:=ok.room
 have o2:=ok.word
 have o3:=ok.r1
 have o4:=ok.r64
 have hk:∀u,TakAt u b tb vl g→u.cell? ⟨b,7,none⟩=some (.int .i64 g.head)∧u.cell? ⟨b,1,none⟩=some (.int .i64 g.ring):=by
  intro u hu
  exact ⟨by have:=hu.blk.cell 7;simpa [Tak.cells,hpc] using this,by have:=hu.blk.cell 1;simpa [Tak.cells,hpc] using this⟩
 have hkb:∀u,Below w.heap.size w u→u.cell? ⟨b,7,none⟩=some (.int .i64 g.head)∧u.cell? ⟨b,1,none⟩=some (.int .i64 g.ring):=fun u hb=>hk u (h.fresh hb)
 have hkt:∀u m q g0,SocTo w S n W most vs m q g0 u→u.cell? ⟨b,7,none⟩=some (.int .i64 g.head)∧u.cell? ⟨b,1,none⟩=some (.int .i64 g.ring):=fun u m q g0 hT=>hk u (h.soc hd hT)
 have hr0: ¬g.ring=0:=by omega
 have hr1: ¬(g.ring:Int)=0:=by omega
 have hrm:g.head%g.ring<g.ring:=Nat.mod_lt _ (by omega)
 have hrt:Int.tmod (g.head:Int) (g.ring:Int)=((g.head%g.ring:Nat):Int):=rfl
 have e1:((g.base:Int)+4+0*(g.ring:Int)+1*(((g.head%g.ring):Nat):Int)+0)=((g.base+4+0*g.ring+1*(g.head%g.ring)+0:Nat):Int):=by omega
 have hP0:=fun u (hb:Below w.heap.size w u)=>tPlace_of b tb vl g u (h.fresh hb) 5 ((g.head%g.ring:Nat):Int) 0 _ (plotAt_5 g.base g.ring ((g.head%g.ring)) (by omega) (by omega) (by omega) u (hA.fresh hb))
 rw [e1] at hP0
 have hP:=fun u (hb:Below w.heap.size w u)=>from_below hb (hP0 u hb)
 clear hP0
 have hL:=fun u (hb:Below w.heap.size w u)=>from_below hb (pLoad_any S n W most vs s.m s.q s.g p c hc hu (g.base+4+0*g.ring+1*(g.head%g.ring)+0) (by omega) u (hp.fresh hb) (hs.fresh hb))
 show Calls _ _ _ _ fun e w'=>e= .returned (.int .i64 (seen s.m (s.q c) (g.base+4+0*g.ring+1*(g.head%g.ring)+0)))∧SocTo w S n W most vs s.m s.q s.g w'
 generalize seen s.m (s.q c) (g.base+4+0*g.ring+1*(g.head%g.ring)+0)=x at *
 generalize g.base+4+0*g.ring+1*(g.head%g.ring)+0=a at *
 have HL:=Lib.hid hL;clear hL
 have HP:=Lib.hid hP;clear hP
 have HKB:=Lib.hid hkb;clear hkb
 have HKT:=Lib.hid hkt;clear hkt hk
 have HS:=Lib.hid hs
 clear hs h hp hpc hd hA o1 o2 o3 o4 e1
 have hn:=ahead_load p
 have hm:=meth_load p
 unfold port
 go_enter Tryz.func170,Tryz.ntmps170
 go_wp2_with fail
 go_region_held3 (fun u=>u.cell? ⟨b,7,none⟩=some (.int .i64 g.head)∧u.cell? ⟨b,1,none⟩=some (.int .i64 g.ring))
  (first|exact HKB.out _ hb|assumption)
  (first|(go_at_call 178;refine (HP.out _ (by first|assumption|exact hb)).mono ?_;rintro e w1 ⟨rfl,hB1⟩;have hq1:=HKB.out w1 hB1)|(go_at_call 183;refine (HL.out _ (by first|assumption|exact hb)).mono ?_;rintro e w3 ⟨rfl,hB3⟩;have hq3:=HKB.out w3 hB3))
 go_wp2_with fail
 all_goals (go_ret;exact ⟨rfl,(SocTo.refl HS.out).fresh (by assumption)⟩)
set_option maxRecDepth 100000 in
theorem tTouch8 (hpc:g.pc=8) (h:TakAt w b tb vl g) (hd:∀k,TakF b tb vl k→ ¬SocF S n vs k) (hA:Ahead w) (hp:PortAt w S p c) (hs:SocAt w S n W most vs s.m s.q s.g):
  Calls Tryz.prog 170 #[.pointer (some ⟨b,0,none⟩),port p] w fun e w'=>e= .returned (.int .i64 (s.tch most c (.ld (g.base+4+2*g.ring+1*g.d+0))).2)∧TchTo w S n W most vs c s (.ld (g.base+4+2*g.ring+1*g.d+0)) w':=by
 have cp:=h.blk.cell 10
 simp only [Tak.cells,List.getElem?_cons_zero,List.getElem?_cons_succ,hpc] at cp
 have hb:=(Below.refl w.heap.size w).drew
 have o1:=ok.room
 have o2:=ok.word
 have o3:=ok.r1
 have o4:=ok.r64
 have hd8:=ok.d8 (by omega) (by omega)
 have hk:∀u,TakAt u b tb vl g→u.cell? ⟨b,11,none⟩=some (.int .i64 g.d):=by
  intro u hu
  exact (by have:=hu.blk.cell 11;simpa [Tak.cells,hpc] using this)
 have hkb:∀u,Below w.heap.size w u→u.cell? ⟨b,11,none⟩=some (.int .i64 g.d):=fun u hb=>hk u (h.fresh hb)
 have hkt:∀u m q g0,SocTo w S n W most vs m q g0 u→u.cell? ⟨b,11,none⟩=some (.int .i64 g.d):=fun u m q g0 hT=>hk u (h.soc hd hT)
 have e1:((g.base:Int)+4+2*(g.ring:Int)+1*((g.d:Nat):Int)+0)=((g.base+4+2*g.ring+1*g.d+0:Nat):Int):=by omega
 have hP0:=fun u (hb:Below w.heap.size w u)=>tPlace_of b tb vl g u (h.fresh hb) 7 g.d 0 _ (plotAt_7 g.base g.ring (g.d) (by omega) (by omega) (by omega) u (hA.fresh hb))
 rw [e1] at hP0
 have hP:=fun u (hb:Below w.heap.size w u)=>from_below hb (hP0 u hb)
 clear hP0
 have hL:=fun u (hb:Below w.heap.size w u)=>from_below hb (pLoad_any S n W most vs s.m s.q s.g p c hc hu (g.base+4+2*g.ring+1*g.d+0) (by omega) u (hp.fresh hb) (hs.fresh hb))
 show Calls _ _ _ _ fun e w'=>e= .returned (.int .i64 (seen s.m (s.q c) (g.base+4+2*g.ring+1*g.d+0)))∧SocTo w S n W most vs s.m s.q s.g w'
 generalize seen s.m (s.q c) (g.base+4+2*g.ring+1*g.d+0)=x at *
 generalize g.base+4+2*g.ring+1*g.d+0=a at *
 have HL:=Lib.hid hL;clear hL
 have HP:=Lib.hid hP;clear hP
 have HKB:=Lib.hid hkb;clear hkb
 have HKT:=Lib.hid hkt;clear hkt hk
 have HS:=Lib.hid hs
 clear hs h hp hpc hd hA o1 o2 o3 o4 e1
 have hn:=ahead_load p
 have hm:=meth_load p
 unfold port
 go_enter Tryz.func170,Tryz.ntmps170
 go_wp2_with fail
 go_region_held3 (fun u=>u.cell? ⟨b,11,none⟩=some (.int .i64 g.d))
  (first|exact HKB.out _ hb|assumption)
  (first|(go_at_call 178;refine (HP.out _ (by first|assumption|exact hb)).mono ?_;rintro e w1 ⟨rfl,hB1⟩;have hq1:=HKB.out w1 hB1)|(go_at_call 183;refine (HL.out _ (by first|assumption|exact hb)).mono ?_;rintro e w3 ⟨rfl,hB3⟩;have hq3:=HKB.out w3 hB3))
 go_wp2_with fail
 all_goals (go_ret;exact ⟨rfl,(SocTo.refl HS.out).fresh (by assumption)⟩)
set_option maxRecDepth 100000 in
theorem tTouch9 (hpc:g.pc=9) (h:TakAt w b tb vl g) (hd:∀k,TakF b tb vl k→ ¬SocF S n vs k) (hA:Ahead w) (hp:PortAt w S p c) (hs:SocAt w S n W most vs s.m s.q s.g):
  Calls Tryz.prog 170 #[.pointer (some ⟨b,0,none⟩),port p] w fun e w'=>e= .returned (.int .i64 (s.tch most c (.ld (g.base+4+3*g.ring+8*g.d+g.load.length))).2)∧TchTo w S n W most vs c s (.ld (g.base+4+3*g.ring+8*g.d+g.load.length)) w':=by
 have cp:=h.blk.cell 10
 simp only [Tak.cells,List.getElem?_cons_zero,List.getElem?_cons_succ,hpc] at cp
 have hb:=(Below.refl w.heap.size w).drew
 have o1:=ok.room
 have o2:=ok.word
 have o3:=ok.r1
 have o4:=ok.r64
 obtain ⟨al,cl,hvl⟩:=(RowI.read h.load).slice
 rw [nats_len] at hvl
 have hl8:=ok.len
 have hd8:=ok.d8 (by omega) (by omega)
 have hl9:=ok.word9 hpc
 have hm9:=ok.many
 have hk:∀u,TakAt u b tb vl g→u.cell? ⟨b,11,none⟩=some (.int .i64 g.d)∧u.cell? ⟨b,15,none⟩=some (vl):=by
  intro u hu
  exact ⟨by have:=hu.blk.cell 11;simpa [Tak.cells,hpc] using this,by have:=hu.blk.cell 15;simpa [Tak.cells,hpc] using this⟩
 have hkb:∀u,Below w.heap.size w u→u.cell? ⟨b,11,none⟩=some (.int .i64 g.d)∧u.cell? ⟨b,15,none⟩=some (vl):=fun u hb=>hk u (h.fresh hb)
 have hkt:∀u m q g0,SocTo w S n W most vs m q g0 u→u.cell? ⟨b,11,none⟩=some (.int .i64 g.d)∧u.cell? ⟨b,15,none⟩=some (vl):=fun u m q g0 hT=>hk u (h.soc hd hT)
 have e1:((g.base:Int)+4+3*(g.ring:Int)+8*(g.d:Int)+(g.load.length:Int))=((g.base+4+3*g.ring+8*g.d+g.load.length:Nat):Int):=by omega
 have hP0:=fun u (hb:Below w.heap.size w u)=>tPlace_of b tb vl g u (h.fresh hb) 8 g.d g.load.length _ (plotAt_8 g.base g.ring g.d g.load.length (by omega) (by omega) (by omega) (by omega) u (hA.fresh hb))
 rw [e1] at hP0
 have hP:=fun u (hb:Below w.heap.size w u)=>from_below hb (hP0 u hb)
 clear hP0
 have hL:=fun u (hb:Below w.heap.size w u)=>from_below hb (pLoad_any S n W most vs s.m s.q s.g p c hc hu (g.base+4+3*g.ring+8*g.d+g.load.length) (by omega) u (hp.fresh hb) (hs.fresh hb))
 show Calls _ _ _ _ fun e w'=>e= .returned (.int .i64 (seen s.m (s.q c) (g.base+4+3*g.ring+8*g.d+g.load.length)))∧SocTo w S n W most vs s.m s.q s.g w'
 generalize seen s.m (s.q c) (g.base+4+3*g.ring+8*g.d+g.load.length)=x at *
 generalize g.base+4+3*g.ring+8*g.d+g.load.length=a at *
 have HL:=Lib.hid hL;clear hL
 have HP:=Lib.hid hP;clear hP
 have HKB:=Lib.hid hkb;clear hkb
 have HKT:=Lib.hid hkt;clear hkt hk
 have HS:=Lib.hid hs
 subst hvl
 clear hs h hp hpc hd hA o1 o2 o3 o4 e1
 have hn:=ahead_load p
 have hm:=meth_load p
 unfold port
 go_enter Tryz.func170,Tryz.ntmps170
 go_wp2_with fail
 go_region_held3 (fun u=>u.cell? ⟨b,11,none⟩=some (.int .i64 g.d)∧u.cell? ⟨b,15,none⟩=some (.slice al g.load.length cl))
  (first|exact HKB.out _ hb|assumption)
  (first|(go_at_call 178;refine (HP.out _ (by first|assumption|exact hb)).mono ?_;rintro e w1 ⟨rfl,hB1⟩;have hq1:=HKB.out w1 hB1)|(go_at_call 183;refine (HL.out _ (by first|assumption|exact hb)).mono ?_;rintro e w3 ⟨rfl,hB3⟩;have hq3:=HKB.out w3 hB3))
 go_wp2_with fail
 all_goals (go_ret;exact ⟨rfl,(SocTo.refl HS.out).fresh (by assumption)⟩)
end
section
variable (S:SocL) (n W most:Nat) (vs:Nat→Value) (s:Sc) (p c:Nat) (hc:c<n) (hu:upAt s.g c) (b tb:Nat) (vl:Value) (g:Tak) (ok:g.Ok n W) (w:World)
include hc hu ok
set_option maxRecDepth 100000 in
theorem tTouch2 (hpc:g.pc=2) (h:TakAt w b tb vl g) (hd:∀k,TakF b tb vl k→ ¬SocF S n vs k) (hA:Ahead w) (hp:PortAt w S p c) (hs:SocAt w S n W most vs s.m s.q s.g):
  Calls Tryz.prog 170 #[.pointer (some ⟨b,0,none⟩),port p] w fun e w'=>e= .returned (.int .i64 (s.tch most c (.st (g.base+3) (0))).2)∧TchTo w S n W most vs c s (.st (g.base+3) (0)) w':=by
 have cp:=h.blk.cell 10
 simp only [Tak.cells,List.getElem?_cons_zero,List.getElem?_cons_succ,hpc] at cp
 have hb:=(Below.refl w.heap.size w).drew
 have o1:=ok.room
 have o2:=ok.word
 have o3:=ok.r1
 have o4:=ok.r64
 have hk:∀u,TakAt u b tb vl g→u.cell? ⟨b,10,none⟩=some (.int .i64 2):=by
  intro u hu
  exact (by have:=hu.blk.cell 10;simpa [Tak.cells,hpc] using this)
 have hkb:∀u,Below w.heap.size w u→u.cell? ⟨b,10,none⟩=some (.int .i64 2):=fun u hb=>hk u (h.fresh hb)
 have hkt:∀u m q g0,SocTo w S n W most vs m q g0 u→u.cell? ⟨b,10,none⟩=some (.int .i64 2):=fun u m q g0 hT=>hk u (h.soc hd hT)
 have e1:((g.base:Int)+4-1)=((g.base+3:Nat):Int):=by omega
 have hP0:=fun u (hb:Below w.heap.size w u)=>tPlace_of b tb vl g u (h.fresh hb) 4 0 0 _ (plotAt_one g.base g.ring 4 (by omega) (by omega) (by omega) u)
 rw [e1] at hP0
 have hP:=fun u (hb:Below w.heap.size w u)=>from_below hb (hP0 u hb)
 clear hP0
 have hL:=fun u (hb:Below w.heap.size w u)=>from_soc hb (pStore_any S n W most vs s.m s.q s.g p c hc hu (g.base+3) (0) (by omega) (by omega) u (hp.fresh hb) (hs.fresh hb))
 show Calls _ _ _ _ fun e w'=>e= .returned (.int .i64 0)∧SocTo w S n W most vs (stM most s.m (s.q c)) (upd s.q c (stQ most (s.q c) (g.base+3,(0)))) s.g w'
 generalize hag:g.base+3=a at *
 have HL:=Lib.hid hL;clear hL
 have HP:=Lib.hid hP;clear hP
 have HKB:=Lib.hid hkb;clear hkb
 have HKT:=Lib.hid hkt;clear hkt hk
 have HS:=Lib.hid hs
 clear hs h hp hpc hd hA o1 o2 o3 o4 e1 hag
 have hn:=ahead_store p
 have hm:=meth_store p
 unfold port
 go_enter Tryz.func170,Tryz.ntmps170
 go_wp2_with fail
 go_region_held3 (fun u=>u.cell? ⟨b,10,none⟩=some (.int .i64 2))
  (first|exact HKB.out _ hb|assumption)
  (first|(go_at_call 178;refine (HP.out _ (by first|assumption|exact hb)).mono ?_;rintro e w1 ⟨rfl,hB1⟩;have hq1:=HKB.out w1 hB1)|(go_at_call 184;refine (HL.out _ (by first|assumption|exact hb)).mono ?_;rintro e w3 ⟨rfl,hT3⟩;have hq3:=HKT.out w3 _ _ _ hT3))
 go_wp2_with fail
 all_goals (go_ret;exact ⟨rfl,by assumption⟩)
set_option maxRecDepth 100000 in
theorem tTouch3 (hpc:g.pc=3) (h:TakAt w b tb vl g) (hd:∀k,TakF b tb vl k→ ¬SocF S n vs k) (hA:Ahead w) (hp:PortAt w S p c) (hs:SocAt w S n W most vs s.m s.q s.g):
  Calls Tryz.prog 170 #[.pointer (some ⟨b,0,none⟩),port p] w fun e w'=>e= .returned (.int .i64 (s.tch most c (.st (g.base+1) (g.ep.toNat))).2)∧TchTo w S n W most vs c s (.st (g.base+1) (g.ep.toNat)) w':=by
 have cp:=h.blk.cell 10
 simp only [Tak.cells,List.getElem?_cons_zero,List.getElem?_cons_succ,hpc] at cp
 have hb:=(Below.refl w.heap.size w).drew
 have o1:=ok.room
 have o2:=ok.word
 have o3:=ok.r1
 have o4:=ok.r64
 have hk:∀u,TakAt u b tb vl g→u.cell? ⟨b,10,none⟩=some (.int .i64 3):=by
  intro u hu
  exact (by have:=hu.blk.cell 10;simpa [Tak.cells,hpc] using this)
 have hkb:∀u,Below w.heap.size w u→u.cell? ⟨b,10,none⟩=some (.int .i64 3):=fun u hb=>hk u (h.fresh hb)
 have hkt:∀u m q g0,SocTo w S n W most vs m q g0 u→u.cell? ⟨b,10,none⟩=some (.int .i64 3):=fun u m q g0 hT=>hk u (h.soc hd hT)
 have e1:((g.base:Int)+2-1)=((g.base+1:Nat):Int):=by omega
 have hP0:=fun u (hb:Below w.heap.size w u)=>tPlace_of b tb vl g u (h.fresh hb) 2 0 0 _ (plotAt_one g.base g.ring 2 (by omega) (by omega) (by omega) u)
 rw [e1] at hP0
 have hP:=fun u (hb:Below w.heap.size w u)=>from_below hb (hP0 u hb)
 clear hP0
 have hE:=fun u (hb:Below w.heap.size w u)=>from_below hb (tEpoch_any b tb vl g u (h.fresh hb))
 have he0:(0:Int)≤g.ep∧g.ep<65536:=by unfold Tak.ep;omega
 have hep:g.ep=((g.ep.toNat:Nat):Int):=by omega
 rw [hep] at hE
 generalize hxg:g.ep.toNat=x at *
 have hL:=fun u (hb:Below w.heap.size w u)=>from_soc hb (pStore_any S n W most vs s.m s.q s.g p c hc hu (g.base+1) (x) (by omega) (by omega) u (hp.fresh hb) (hs.fresh hb))
 show Calls _ _ _ _ fun e w'=>e= .returned (.int .i64 0)∧SocTo w S n W most vs (stM most s.m (s.q c)) (upd s.q c (stQ most (s.q c) (g.base+1,x))) s.g w'
 generalize hag:g.base+1=a at *
 have HL:=Lib.hid hL;clear hL
 have HP:=Lib.hid hP;clear hP
 have HE:=Lib.hid hE;clear hE
 have HKB:=Lib.hid hkb;clear hkb
 have HKT:=Lib.hid hkt;clear hkt hk
 have HS:=Lib.hid hs
 clear hs h hp hpc hd hA o1 o2 o3 o4 e1 he0 hep hxg hag
 have hn:=ahead_store p
 have hm:=meth_store p
 unfold port
 go_enter Tryz.func170,Tryz.ntmps170
 go_wp2_with fail
 go_region_held3 (fun u=>u.cell? ⟨b,10,none⟩=some (.int .i64 3))
  (first|exact HKB.out _ hb|assumption)
  (first|(go_at_call 178;refine (HP.out _ (by first|assumption|exact hb)).mono ?_;rintro e w1 ⟨rfl,hB1⟩;have hq1:=HKB.out w1 hB1)|(go_at_call 172;refine (HE.out _ (by first|assumption|exact hb)).mono ?_;rintro e w2 ⟨rfl,hB2⟩;have hq2:=HKB.out w2 hB2)|(go_at_call 184;refine (HL.out _ (by first|assumption|exact hb)).mono ?_;rintro e w3 ⟨rfl,hT3⟩;have hq3:=HKT.out w3 _ _ _ hT3))
 go_wp2_with fail
 all_goals (go_ret;exact ⟨rfl,by assumption⟩)
set_option maxRecDepth 100000 in
theorem tTouch10 (hpc:g.pc=10) (h:TakAt w b tb vl g) (hd:∀k,TakF b tb vl k→ ¬SocF S n vs k) (hA:Ahead w) (hp:PortAt w S p c) (hs:SocAt w S n W most vs s.m s.q s.g):
  Calls Tryz.prog 170 #[.pointer (some ⟨b,0,none⟩),port p] w fun e w'=>e= .returned (.int .i64 (s.tch most c (.st (g.base+4+1*g.ring+1*(g.used%g.ring)+0) (g.d))).2)∧TchTo w S n W most vs c s (.st (g.base+4+1*g.ring+1*(g.used%g.ring)+0) (g.d)) w':=by
 have cp:=h.blk.cell 10
 simp only [Tak.cells,List.getElem?_cons_zero,List.getElem?_cons_succ,hpc] at cp
 have hb:=(Below.refl w.heap.size w).drew
 have o1:=ok.room
 have o2:=ok.word
 have o3:=ok.r1
 have o4:=ok.r64
 have hd8:=ok.dback (ok.pc10 hpc)
 have hk:∀u,TakAt u b tb vl g→u.cell? ⟨b,8,none⟩=some (.int .i64 g.used)∧u.cell? ⟨b,1,none⟩=some (.int .i64 g.ring)∧u.cell? ⟨b,11,none⟩=some (.int .i64 g.d):=by
  intro u hu
  exact ⟨by have:=hu.blk.cell 8;simpa [Tak.cells,hpc] using this,by have:=hu.blk.cell 1;simpa [Tak.cells,hpc] using this,by have:=hu.blk.cell 11;simpa [Tak.cells,hpc] using this⟩
 have hkb:∀u,Below w.heap.size w u→u.cell? ⟨b,8,none⟩=some (.int .i64 g.used)∧u.cell? ⟨b,1,none⟩=some (.int .i64 g.ring)∧u.cell? ⟨b,11,none⟩=some (.int .i64 g.d):=fun u hb=>hk u (h.fresh hb)
 have hkt:∀u m q g0,SocTo w S n W most vs m q g0 u→u.cell? ⟨b,8,none⟩=some (.int .i64 g.used)∧u.cell? ⟨b,1,none⟩=some (.int .i64 g.ring)∧u.cell? ⟨b,11,none⟩=some (.int .i64 g.d):=fun u m q g0 hT=>hk u (h.soc hd hT)
 have hr0: ¬g.ring=0:=by omega
 have hr1: ¬(g.ring:Int)=0:=by omega
 have hrm:g.used%g.ring<g.ring:=Nat.mod_lt _ (by omega)
 have hrt:Int.tmod (g.used:Int) (g.ring:Int)=((g.used%g.ring:Nat):Int):=rfl
 have e1:((g.base:Int)+4+1*(g.ring:Int)+1*(((g.used%g.ring):Nat):Int)+0)=((g.base+4+1*g.ring+1*(g.used%g.ring)+0:Nat):Int):=by omega
 have hP0:=fun u (hb:Below w.heap.size w u)=>tPlace_of b tb vl g u (h.fresh hb) 6 ((g.used%g.ring:Nat):Int) 0 _ (plotAt_6 g.base g.ring ((g.used%g.ring)) (by omega) (by omega) (by omega) u (hA.fresh hb))
 rw [e1] at hP0
 have hP:=fun u (hb:Below w.heap.size w u)=>from_below hb (hP0 u hb)
 clear hP0
 have hL:=fun u (hb:Below w.heap.size w u)=>from_soc hb (pStore_any S n W most vs s.m s.q s.g p c hc hu (g.base+4+1*g.ring+1*(g.used%g.ring)+0) (g.d) (by omega) (by omega) u (hp.fresh hb) (hs.fresh hb))
 show Calls _ _ _ _ fun e w'=>e= .returned (.int .i64 0)∧SocTo w S n W most vs (stM most s.m (s.q c)) (upd s.q c (stQ most (s.q c) (g.base+4+1*g.ring+1*(g.used%g.ring)+0,(g.d)))) s.g w'
 generalize hag:g.base+4+1*g.ring+1*(g.used%g.ring)+0=a at *
 have HL:=Lib.hid hL;clear hL
 have HP:=Lib.hid hP;clear hP
 have HKB:=Lib.hid hkb;clear hkb
 have HKT:=Lib.hid hkt;clear hkt hk
 have HS:=Lib.hid hs
 clear hs h hp hpc hd hA o1 o2 o3 o4 e1 hag
 have hn:=ahead_store p
 have hm:=meth_store p
 unfold port
 go_enter Tryz.func170,Tryz.ntmps170
 go_wp2_with fail
 go_region_held3 (fun u=>u.cell? ⟨b,8,none⟩=some (.int .i64 g.used)∧u.cell? ⟨b,1,none⟩=some (.int .i64 g.ring)∧u.cell? ⟨b,11,none⟩=some (.int .i64 g.d))
  (first|exact HKB.out _ hb|assumption)
  (first|(go_at_call 178;refine (HP.out _ (by first|assumption|exact hb)).mono ?_;rintro e w1 ⟨rfl,hB1⟩;have hq1:=HKB.out w1 hB1)|(go_at_call 184;refine (HL.out _ (by first|assumption|exact hb)).mono ?_;rintro e w3 ⟨rfl,hT3⟩;have hq3:=HKT.out w3 _ _ _ hT3))
 go_wp2_with fail
 all_goals (go_ret;exact ⟨rfl,by assumption⟩)
set_option maxRecDepth 100000 in
theorem tTouch12 (hpc:g.pc=12) (h:TakAt w b tb vl g) (hd:∀k,TakF b tb vl k→ ¬SocF S n vs k) (hA:Ahead w) (hp:PortAt w S p c) (hs:SocAt w S n W most vs s.m s.q s.g):
  Calls Tryz.prog 170 #[.pointer (some ⟨b,0,none⟩),port p] w fun e w'=>e= .returned (.int .i64 (s.tch most c (.st (g.base+3) ((g.used+1)%65536))).2)∧TchTo w S n W most vs c s (.st (g.base+3) ((g.used+1)%65536)) w':=by
 have cp:=h.blk.cell 10
 simp only [Tak.cells,List.getElem?_cons_zero,List.getElem?_cons_succ,hpc] at cp
 have hb:=(Below.refl w.heap.size w).drew
 have o1:=ok.room
 have o2:=ok.word
 have o3:=ok.r1
 have o4:=ok.r64
 have hk:∀u,TakAt u b tb vl g→u.cell? ⟨b,8,none⟩=some (.int .i64 g.used):=by
  intro u hu
  exact (by have:=hu.blk.cell 8;simpa [Tak.cells,hpc] using this)
 have hkb:∀u,Below w.heap.size w u→u.cell? ⟨b,8,none⟩=some (.int .i64 g.used):=fun u hb=>hk u (h.fresh hb)
 have hkt:∀u m q g0,SocTo w S n W most vs m q g0 u→u.cell? ⟨b,8,none⟩=some (.int .i64 g.used):=fun u m q g0 hT=>hk u (h.soc hd hT)
 have e1:((g.base:Int)+4-1)=((g.base+3:Nat):Int):=by omega
 have hP0:=fun u (hb:Below w.heap.size w u)=>tPlace_of b tb vl g u (h.fresh hb) 4 0 0 _ (plotAt_one g.base g.ring 4 (by omega) (by omega) (by omega) u)
 rw [e1] at hP0
 have hP:=fun u (hb:Below w.heap.size w u)=>from_below hb (hP0 u hb)
 clear hP0
 have hE:=fun u=>add_any g.used 1 u
 have hep:(((g.used:Int)+1)%65536)=(((g.used+1)%65536:Nat):Int):=by omega
 rw [hep] at hE
 have hx0:(g.used+1)%65536<65536:=by omega
 generalize (g.used+1)%65536=x at *
 have hL:=fun u (hb:Below w.heap.size w u)=>from_soc hb (pStore_any S n W most vs s.m s.q s.g p c hc hu (g.base+3) (x) (by omega) (by omega) u (hp.fresh hb) (hs.fresh hb))
 show Calls _ _ _ _ fun e w'=>e= .returned (.int .i64 0)∧SocTo w S n W most vs (stM most s.m (s.q c)) (upd s.q c (stQ most (s.q c) (g.base+3,x))) s.g w'
 generalize hag:g.base+3=a at *
 have HL:=Lib.hid hL;clear hL
 have HP:=Lib.hid hP;clear hP
 have HE:=Lib.hid hE;clear hE
 have HKB:=Lib.hid hkb;clear hkb
 have HKT:=Lib.hid hkt;clear hkt hk
 have HS:=Lib.hid hs
 clear hs h hp hpc hd hA o1 o2 o3 o4 e1 hep hx0 hag
 have hn:=ahead_store p
 have hm:=meth_store p
 unfold port
 go_enter Tryz.func170,Tryz.ntmps170
 go_wp2_with fail
 go_region_held3 (fun u=>u.cell? ⟨b,8,none⟩=some (.int .i64 g.used))
  (first|exact HKB.out _ hb|assumption)
  (first|(go_at_call 178;refine (HP.out _ (by first|assumption|exact hb)).mono ?_;rintro e w1 ⟨rfl,hB1⟩;have hq1:=HKB.out w1 hB1)|(go_at_call 103;refine (HE.out _).mono ?_;rintro e w2 ⟨rfl,rfl⟩)|(go_at_call 184;refine (HL.out _ (by first|assumption|exact hb)).mono ?_;rintro e w3 ⟨rfl,hT3⟩;have hq3:=HKT.out w3 _ _ _ hT3))
 go_wp2_with fail
 all_goals (go_ret;exact ⟨rfl,by assumption⟩)
end
section
variable (b tb:Nat) (vl:Value) (g:Tak) (w:World) (p:Value) (x:Int) (T:World→Prop) (h:TakAt w b tb vl g) (hT:Calls Tryz.prog 170 #[.pointer (some ⟨b,0,none⟩),p] w fun e w'=>e= .returned (.int .i64 x)∧T w') (hg:∀w',T w'→TakAt w' b tb vl g)
include h hT hg
set_option maxRecDepth 100000 in
theorem tStep2 (hpc:g.pc=2)  :
  Calls Tryz.prog 168 #[.pointer (some ⟨b,0,none⟩),p] w fun e w'=>e= .returned (.tuple #[.bool false, .int .i64 0])∧∃w1,T w1∧TakTo w1 b tb vl ({ g with pc:=3 }) w':=by
 have c10:=h.blk.cell 10
 simp only [Tak.cells,List.getElem?_cons_zero,List.getElem?_cons_succ,hpc] at c10
 have HT:=Lib.hid hT;clear hT
 have HG:=Lib.hid hg;clear hg h
 go_enter Tryz.func168,Tryz.ntmps168
 go_wp2_with fail
 go_step3
 go_wp2_with fail
 refine HT.out.mono ?_
 rintro e w1 ⟨rfl,ht⟩
 have hw1:=HG.out w1 ht
 have HW:=Lib.hid ht;clear ht
 have c10:=hw1.blk.cell 10
 simp only [Tak.cells,List.getElem?_cons_zero,List.getElem?_cons_succ,hpc] at c10
 have hs1:=TS.start hw1;clear hw1
 have f10:=hs1.tak.blk.free 10
 have HF:=Lib.hid (hs1.put (g':= { g with pc:=3 }) 10 (.int .i64 3) rfl rfl rfl);clear hs1
 go_wp2_with fail
 rw [Exit.noGoto_ret]
 go_ret2
 exact ⟨rfl,w1,HW.out,HF.out.to⟩
set_option maxRecDepth 100000 in
theorem tStep3 (hpc:g.pc=3)  :
  Calls Tryz.prog 168 #[.pointer (some ⟨b,0,none⟩),p] w fun e w'=>e= .returned (.tuple #[.bool false, .int .i64 0])∧∃w1,T w1∧TakTo w1 b tb vl ({ g with pc:=4 }) w':=by
 have c10:=h.blk.cell 10
 simp only [Tak.cells,List.getElem?_cons_zero,List.getElem?_cons_succ,hpc] at c10
 have HT:=Lib.hid hT;clear hT
 have HG:=Lib.hid hg;clear hg h
 go_enter Tryz.func168,Tryz.ntmps168
 go_wp2_with fail
 go_step3
 go_wp2_with fail
 refine HT.out.mono ?_
 rintro e w1 ⟨rfl,ht⟩
 have hw1:=HG.out w1 ht
 have HW:=Lib.hid ht;clear ht
 have c10:=hw1.blk.cell 10
 simp only [Tak.cells,List.getElem?_cons_zero,List.getElem?_cons_succ,hpc] at c10
 have hs1:=TS.start hw1;clear hw1
 have f10:=hs1.tak.blk.free 10
 have HF:=Lib.hid (hs1.put (g':= { g with pc:=4 }) 10 (.int .i64 4) rfl rfl rfl);clear hs1
 go_wp2_with fail
 rw [Exit.noGoto_ret]
 go_ret2
 exact ⟨rfl,w1,HW.out,HF.out.to⟩
set_option maxRecDepth 100000 in
theorem tStep10 (hpc:g.pc=10)  :
  Calls Tryz.prog 168 #[.pointer (some ⟨b,0,none⟩),p] w fun e w'=>e= .returned (.tuple #[.bool false, .int .i64 0])∧∃w1,T w1∧TakTo w1 b tb vl ({ g with pc:=11 }) w':=by
 have c10:=h.blk.cell 10
 simp only [Tak.cells,List.getElem?_cons_zero,List.getElem?_cons_succ,hpc] at c10
 have HT:=Lib.hid hT;clear hT
 have HG:=Lib.hid hg;clear hg h
 go_enter Tryz.func168,Tryz.ntmps168
 go_wp2_with fail
 go_step3
 go_wp2_with fail
 refine HT.out.mono ?_
 rintro e w1 ⟨rfl,ht⟩
 have hw1:=HG.out w1 ht
 have HW:=Lib.hid ht;clear ht
 have c10:=hw1.blk.cell 10
 simp only [Tak.cells,List.getElem?_cons_zero,List.getElem?_cons_succ,hpc] at c10
 have hs1:=TS.start hw1;clear hw1
 have f10:=hs1.tak.blk.free 10
 have HF:=Lib.hid (hs1.put (g':= { g with pc:=11 }) 10 (.int .i64 11) rfl rfl rfl);clear hs1
 go_wp2_with fail
 rw [Exit.noGoto_ret]
 go_ret2
 exact ⟨rfl,w1,HW.out,HF.out.to⟩
set_option maxRecDepth 100000 in
theorem tStep11 (hpc:g.pc=11)  :
  Calls Tryz.prog 168 #[.pointer (some ⟨b,0,none⟩),p] w fun e w'=>e= .returned (.tuple #[.bool false, .int .i64 0])∧∃w1,T w1∧TakTo w1 b tb vl ({ g with pc:=12 }) w':=by
 have c10:=h.blk.cell 10
 simp only [Tak.cells,List.getElem?_cons_zero,List.getElem?_cons_succ,hpc] at c10
 have HT:=Lib.hid hT;clear hT
 have HG:=Lib.hid hg;clear hg h
 go_enter Tryz.func168,Tryz.ntmps168
 go_wp2_with fail
 go_step3
 go_wp2_with fail
 refine HT.out.mono ?_
 rintro e w1 ⟨rfl,ht⟩
 have hw1:=HG.out w1 ht
 have HW:=Lib.hid ht;clear ht
 have c10:=hw1.blk.cell 10
 simp only [Tak.cells,List.getElem?_cons_zero,List.getElem?_cons_succ,hpc] at c10
 have hs1:=TS.start hw1;clear hw1
 have f10:=hs1.tak.blk.free 10
 have HF:=Lib.hid (hs1.put (g':= { g with pc:=12 }) 10 (.int .i64 12) rfl rfl rfl);clear hs1
 go_wp2_with fail
 rw [Exit.noGoto_ret]
 go_ret2
 exact ⟨rfl,w1,HW.out,HF.out.to⟩
set_option maxRecDepth 100000 in
theorem tStep12 (hpc:g.pc=12)  :
  Calls Tryz.prog 168 #[.pointer (some ⟨b,0,none⟩),p] w fun e w'=>e= .returned (.tuple #[.bool false, .int .i64 0])∧∃w1,T w1∧TakTo w1 b tb vl ({ g with pc:=13 }) w':=by
 have c10:=h.blk.cell 10
 simp only [Tak.cells,List.getElem?_cons_zero,List.getElem?_cons_succ,hpc] at c10
 have HT:=Lib.hid hT;clear hT
 have HG:=Lib.hid hg;clear hg h
 go_enter Tryz.func168,Tryz.ntmps168
 go_wp2_with fail
 go_step3
 go_wp2_with fail
 refine HT.out.mono ?_
 rintro e w1 ⟨rfl,ht⟩
 have hw1:=HG.out w1 ht
 have HW:=Lib.hid ht;clear ht
 have c10:=hw1.blk.cell 10
 simp only [Tak.cells,List.getElem?_cons_zero,List.getElem?_cons_succ,hpc] at c10
 have hs1:=TS.start hw1;clear hw1
 have f10:=hs1.tak.blk.free 10
 have HF:=Lib.hid (hs1.put (g':= { g with pc:=13 }) 10 (.int .i64 13) rfl rfl rfl);clear hs1
 go_wp2_with fail
 rw [Exit.noGoto_ret]
 go_ret2
 exact ⟨rfl,w1,HW.out,HF.out.to⟩
set_option maxRecDepth 100000 in
theorem tStep13 (hpc:g.pc=13)  :
  Calls Tryz.prog 168 #[.pointer (some ⟨b,0,none⟩),p] w fun e w'=>e= .returned (.tuple #[.bool false, .int .i64 0])∧∃w1,T w1∧TakTo w1 b tb vl ({ g with answer:=0,pc:=14 }) w':=by
 have c10:=h.blk.cell 10
 simp only [Tak.cells,List.getElem?_cons_zero,List.getElem?_cons_succ,hpc] at c10
 have HT:=Lib.hid hT;clear hT
 have HG:=Lib.hid hg;clear hg h
 go_enter Tryz.func168,Tryz.ntmps168
 go_wp2_with fail
 refine wp_scope_once 0 rfl ?_
 go_wp2_with fail
 refine HT.out.mono ?_
 rintro e w1 ⟨rfl,ht⟩
 have hw1:=HG.out w1 ht
 have HW:=Lib.hid ht;clear ht
 have c10:=hw1.blk.cell 10
 simp only [Tak.cells,List.getElem?_cons_zero,List.getElem?_cons_succ,hpc] at c10
 have hs1:=TS.start hw1;clear hw1
 have c13:=hs1.tak.blk.cell 13
 simp only [Tak.cells,List.getElem?_cons_zero,List.getElem?_cons_succ] at c13
 have f13:=hs1.tak.blk.free 13
 have hs3:=hs1.put (g':= { g with answer:=0 }) 13 (.int .i64 0) rfl rfl rfl
 have HS3:=Lib.hid hs3;clear hs1 hs3
 go_wp2_with fail
 go_step3
 refine ⟨rfl, ?_⟩
 have hs3:=HS3.out
 clear c10 c13 f13
 generalize w1.setCell ⟨b,13,none⟩ (Value.int IntKind.i64 0)=W3 at hs3 ⊢
 have c10:=hs3.tak.blk.cell 10
 simp only [Tak.cells,List.getElem?_cons_zero,List.getElem?_cons_succ] at c10
 have f10:=hs3.tak.blk.free 10
 have HF:=Lib.hid (hs3.put (g':= { g with answer:=0,pc:=14 }) 10 (.int .i64 14) rfl rfl rfl);clear hs3
 go_wp2_with fail
 rw [Exit.noGoto_ret]
 go_ret2
 exact ⟨rfl,w1,HW.out,HF.out.to⟩
end
end Go.Proofs.YtaaffebnajjfhaaGreatDoor.T
