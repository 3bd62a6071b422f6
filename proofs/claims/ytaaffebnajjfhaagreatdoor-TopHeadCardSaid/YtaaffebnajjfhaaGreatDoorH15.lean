/- Texts of this proof, merged: Touch2, Touch3. -/
import Derived.Test.YtaaffebnajjfhaaGreatDoorH10
namespace Go.Proofs.YtaaffebnajjfhaaGreatDoor.T
set_option linter.unusedVariables false
set_option linter.unusedSimpArgs false
set_option linter.unusedSectionVars false
open Go.RowKit
section
variable (S:SocL) (n W most:Nat) (vs:Nat→Value) (s:Sc) (p c:Nat) (hc:c<n) (hu:upAt s.g c) (b:Nat) (vf vo vl:Value) (g:Giv) (ok:g.Ok n W) (w:World)
include hc hu ok
set_option maxRecDepth 100000 in
theorem gTouch7 (hpc:g.pc=7) (h:GivAt w b vf vo vl g) (hd:∀k,GivF b vf vo vl k→ ¬SocF S n vs k) (hA:Ahead w) (hp:PortAt w S p c) (hs:SocAt w S n W most vs s.m s.q s.g):
  Calls Tryz.prog 158 #[.pointer (some ⟨b,0,none⟩),port p] w fun e w'=>e= .returned (.int .i64 (s.tch most c (.ld (g.base+4+1*g.ring+1*(g.tail%g.ring)+0))).2)∧TchTo w S n W most vs c s (.ld (g.base+4+1*g.ring+1*(g.tail%g.ring)+0)) w':=by
 have cp:=h.blk.cell 11
 simp only [Giv.cells,List.getElem?_cons_zero,List.getElem?_cons_succ,hpc] at cp
 have hb:=(Below.refl w.heap.size w).drew
 have o1:=ok.room
 have o2:=ok.word
 have o3:=ok.r1
 have o4:=ok.r64
 have hk:∀u,GivAt u b vf vo vl g→u.cell? ⟨b,10,none⟩=some (.int .i64 g.tail)∧u.cell? ⟨b,1,none⟩=some (.int .i64 g.ring):=by
  intro u hu
  exact ⟨by have:=hu.blk.cell 10;simpa [Giv.cells,hpc] using this,by have:=hu.blk.cell 1;simpa [Giv.cells,hpc] using this⟩
 have hkb:∀u,Below w.heap.size w u→u.cell? ⟨b,10,none⟩=some (.int .i64 g.tail)∧u.cell? ⟨b,1,none⟩=some (.int .i64 g.ring):=fun u hb=>hk u (h.fresh hb)
 have hkt:∀u m q g0,SocTo w S n W most vs m q g0 u→u.cell? ⟨b,10,none⟩=some (.int .i64 g.tail)∧u.cell? ⟨b,1,none⟩=some (.int .i64 g.ring):=fun u m q g0 hT=>hk u (h.soc hd hT)
 have hr0: ¬g.ring=0:=by omega
 have hr1: ¬(g.ring:Int)=0:=by omega
 have hrm:g.tail%g.ring<g.ring:=Nat.mod_lt _ (by omega)
 have hrt:Int.tmod (g.tail:Int) (g.ring:Int)=((g.tail%g.ring:Nat):Int):=rfl
 have e1:((g.base:Int)+4+1*(g.ring:Int)+1*(((g.tail%g.ring):Nat):Int)+0)=((g.base+4+1*g.ring+1*(g.tail%g.ring)+0:Nat):Int):=by omega
 have hP0:=fun u (hb:Below w.heap.size w u)=>gPlace_of b vf vo vl g 6 ((g.tail%g.ring:Nat):Int) 0 _ u (h.fresh hb) (plotAt_6 g.base g.ring ((g.tail%g.ring)) (by omega) (by omega) (by omega) u (hA.fresh hb))
 rw [e1] at hP0
 have hP:=fun u (hb:Below w.heap.size w u)=>from_below hb (hP0 u hb)
 clear hP0
 have hL:=fun u (hb:Below w.heap.size w u)=>from_below hb (pLoad_any S n W most vs s.m s.q s.g p c hc hu (g.base+4+1*g.ring+1*(g.tail%g.ring)+0) (by omega) u (hp.fresh hb) (hs.fresh hb))
 show Calls _ _ _ _ fun e w'=>e= .returned (.int .i64 (seen s.m (s.q c) (g.base+4+1*g.ring+1*(g.tail%g.ring)+0)))∧SocTo w S n W most vs s.m s.q s.g w'
 generalize seen s.m (s.q c) (g.base+4+1*g.ring+1*(g.tail%g.ring)+0)=x at *
 generalize g.base+4+1*g.ring+1*(g.tail%g.ring)+0=a at *
 have HL:=Lib.hid hL;clear hL
 have HP:=Lib.hid hP;clear hP
 have HKB:=Lib.hid hkb;clear hkb
 have HKT:=Lib.hid hkt;clear hkt hk
 have HS:=Lib.hid hs
 clear hs h hp hpc hd hA o1 o2 o3 o4 e1
 have hn:=ahead_load p
 have hm:=meth_load p
 unfold port
 go_enter Tryz.func158,Tryz.ntmps158
 go_wp2_with fail
 go_region_held3 (fun u=>u.cell? ⟨b,10,none⟩=some (.int .i64 g.tail)∧u.cell? ⟨b,1,none⟩=some (.int .i64 g.ring))
  (first|exact HKB.out _ hb|assumption)
  (first|(go_at_call 165;refine (HP.out _ (by first|assumption|exact hb)).mono ?_;rintro e w1 ⟨rfl,hB1⟩;have hq1:=HKB.out w1 hB1)|(go_at_call 183;refine (HL.out _ (by first|assumption|exact hb)).mono ?_;rintro e w3 ⟨rfl,hB3⟩;have hq3:=HKB.out w3 hB3))
 go_wp2_with fail
 all_goals (go_ret;exact ⟨rfl,(SocTo.refl HS.out).fresh (by assumption)⟩)
set_option maxRecDepth 100000 in
theorem gTouch3 (hpc:g.pc=3) (h:GivAt w b vf vo vl g) (hd:∀k,GivF b vf vo vl k→ ¬SocF S n vs k) (hA:Ahead w) (hp:PortAt w S p c) (hs:SocAt w S n W most vs s.m s.q s.g):
  Calls Tryz.prog 158 #[.pointer (some ⟨b,0,none⟩),port p] w fun e w'=>e= .returned (.int .i64 (s.tch most c (.st (g.base) (g.ep.toNat))).2)∧TchTo w S n W most vs c s (.st (g.base) (g.ep.toNat)) w':=by
 have cp:=h.blk.cell 11
 simp only [Giv.cells,List.getElem?_cons_zero,List.getElem?_cons_succ,hpc] at cp
 have hb:=(Below.refl w.heap.size w).drew
 have o1:=ok.room
 have o2:=ok.word
 have o3:=ok.r1
 have o4:=ok.r64
 have hk:∀u,GivAt u b vf vo vl g→u.cell? ⟨b,11,none⟩=some (.int .i64 3):=by
  intro u hu
  exact (by have:=hu.blk.cell 11;simpa [Giv.cells,hpc] using this)
 have hkb:∀u,Below w.heap.size w u→u.cell? ⟨b,11,none⟩=some (.int .i64 3):=fun u hb=>hk u (h.fresh hb)
 have hkt:∀u m q g0,SocTo w S n W most vs m q g0 u→u.cell? ⟨b,11,none⟩=some (.int .i64 3):=fun u m q g0 hT=>hk u (h.soc hd hT)
 have e1:((g.base:Int)+1-1)=((g.base:Nat):Int):=by omega
 have hP0:=fun u (hb:Below w.heap.size w u)=>gPlace_of b vf vo vl g 1 0 0 _ u (h.fresh hb) (plotAt_one g.base g.ring 1 (by omega) (by omega) (by omega) u)
 rw [e1] at hP0
 have hP:=fun u (hb:Below w.heap.size w u)=>from_below hb (hP0 u hb)
 clear hP0
 have hE:=fun u (hb:Below w.heap.size w u)=>from_below hb (gEpoch_any b vf vo vl g u (h.fresh hb))
 have he0:(0:Int)≤g.ep∧g.ep<65536:=by unfold Giv.ep;omega
 have hep:g.ep=((g.ep.toNat:Nat):Int):=by omega
 rw [hep] at hE
 generalize hxg:g.ep.toNat=x at *
 have hL:=fun u (hb:Below w.heap.size w u)=>from_soc hb (pStore_any S n W most vs s.m s.q s.g p c hc hu (g.base) (x) (by omega) (by omega) u (hp.fresh hb) (hs.fresh hb))
 show Calls _ _ _ _ fun e w'=>e= .returned (.int .i64 0)∧SocTo w S n W most vs (stM most s.m (s.q c)) (upd s.q c (stQ most (s.q c) (g.base,x))) s.g w'
 generalize hag:g.base=a at *
 have HL:=Lib.hid hL;clear hL
 have HP:=Lib.hid hP;clear hP
 have HE:=Lib.hid hE;clear hE
 have HKB:=Lib.hid hkb;clear hkb
 have HKT:=Lib.hid hkt;clear hkt hk
 have HS:=Lib.hid hs
 clear hs h hp hpc hd hA o1 o2 o3 o4 e1 he0 hep hxg hag
 have hn:=ahead_store p
 have hm:=meth_store p
 unfold port
 go_enter Tryz.func158,Tryz.ntmps158
 go_wp2_with fail
 go_region_held3 (fun u=>u.cell? ⟨b,11,none⟩=some (.int .i64 3))
  (first|exact HKB.out _ hb|assumption)
  (first|(go_at_call 165;refine (HP.out _ (by first|assumption|exact hb)).mono ?_;rintro e w1 ⟨rfl,hB1⟩;have hq1:=HKB.out w1 hB1)|(go_at_call 160;refine (HE.out _ (by first|assumption|exact hb)).mono ?_;rintro e w2 ⟨rfl,hB2⟩;have hq2:=HKB.out w2 hB2)|(go_at_call 184;refine (HL.out _ (by first|assumption|exact hb)).mono ?_;rintro e w3 ⟨rfl,hT3⟩;have hq3:=HKT.out w3 _ _ _ hT3))
 go_wp2_with fail
 all_goals (go_ret;exact ⟨rfl,by assumption⟩)
set_option maxRecDepth 100000 in
theorem gTouch8 (hpc:g.pc=8) (h:GivAt w b vf vo vl g) (hd:∀k,GivF b vf vo vl k→ ¬SocF S n vs k) (hA:Ahead w) (hp:PortAt w S p c) (hs:SocAt w S n W most vs s.m s.q s.g):
  Calls Tryz.prog 158 #[.pointer (some ⟨b,0,none⟩),port p] w fun e w'=>e= .returned (.int .i64 (s.tch most c (.st (g.base+4+3*g.ring+8*g.d+g.i) (g.load.getD g.i 0))).2)∧TchTo w S n W most vs c s (.st (g.base+4+3*g.ring+8*g.d+g.i) (g.load.getD g.i 0)) w':=by
 have cp:=h.blk.cell 11
 simp only [Giv.cells,List.getElem?_cons_zero,List.getElem?_cons_succ,hpc] at cp
 have hb:=(Below.refl w.heap.size w).drew
 have o1:=ok.room
 have o2:=ok.word
 have o3:=ok.r1
 have o4:=ok.r64
 have hi8:=ok.word8 hpc
 have hl8:=ok.len
 obtain ⟨gl,ol,cl,hvl,hlc,hwd⟩:=(RowI.read h.load).at_ g.i (by rw [nats_len];exact hi8)
 rw [nats_len] at hvl hlc
 have hgl:gl<w.heap.size:=Row.lt h.load gl (by rw [hvl];rfl)
 have hgt:GivF b vf vo vl gl:= .inr (.inr (.inr (by rw [hvl];rfl)))
 have hgd:(nats g.load).getD g.i 0=((g.load.getD g.i 0:Nat):Int):=by simp [nats,List.getD,hi8]
 rw [hgd] at hwd
 have hx8:g.load.getD g.i 0<65536:=by rw [List.getD_eq_getElem?_getD,List.getElem?_eq_getElem hi8];exact ok.load _ (List.getElem_mem _)
 have hi0:(0:Int)≤(g.i:Int):=by omega
 have hi1:(g.i:Int)<(g.load.length:Int):=by omega
 have hd8:=ok.d (by omega) (by omega)
 have hk:∀u,GivAt u b vf vo vl g→u.heap[gl]? = w.heap[gl]? → u.cell? ⟨b,14,none⟩=some (.int .i64 g.d)∧u.cell? ⟨b,12,none⟩=some (.int .i64 g.i)∧u.cell? ⟨b,16,none⟩=some (vl)∧u.cell? ⟨gl,ol+g.i,none⟩=some (.int .i64 (g.load.getD g.i 0:Nat)):=by
  intro u hu hw
  exact ⟨by have:=hu.blk.cell 14;simpa [Giv.cells,hpc] using this,by have:=hu.blk.cell 12;simpa [Giv.cells,hpc] using this,by have:=hu.blk.cell 16;simpa [Giv.cells,hpc] using this,by rw [←hwd];simp only [World.cell?,hw]⟩
 have hkb:∀u,Below w.heap.size w u→u.cell? ⟨b,14,none⟩=some (.int .i64 g.d)∧u.cell? ⟨b,12,none⟩=some (.int .i64 g.i)∧u.cell? ⟨b,16,none⟩=some (vl)∧u.cell? ⟨gl,ol+g.i,none⟩=some (.int .i64 (g.load.getD g.i 0:Nat)):=fun u hb=>hk u (h.fresh hb) (hb.block gl hgl)
 have hkt:∀u m q g0,SocTo w S n W most vs m q g0 u→u.cell? ⟨b,14,none⟩=some (.int .i64 g.d)∧u.cell? ⟨b,12,none⟩=some (.int .i64 g.i)∧u.cell? ⟨b,16,none⟩=some (vl)∧u.cell? ⟨gl,ol+g.i,none⟩=some (.int .i64 (g.load.getD g.i 0:Nat)):=fun u m q g0 hT=>hk u (h.soc hd hT) (hT.block hgl (hd gl hgt))
 have e1:((g.base:Int)+4+3*(g.ring:Int)+8*(g.d:Int)+(g.i:Int))=((g.base+4+3*g.ring+8*g.d+g.i:Nat):Int):=by omega
 have hP0:=fun u (hb:Below w.heap.size w u)=>gPlace_of b vf vo vl g 8 g.d g.i _ u (h.fresh hb) (plotAt_8 g.base g.ring g.d g.i (by omega) (by omega) (by omega) (by omega) u (hA.fresh hb))
 rw [e1] at hP0
 have hP:=fun u (hb:Below w.heap.size w u)=>from_below hb (hP0 u hb)
 clear hP0
 have hL:=fun u (hb:Below w.heap.size w u)=>from_soc hb (pStore_any S n W most vs s.m s.q s.g p c hc hu (g.base+4+3*g.ring+8*g.d+g.i) (g.load.getD g.i 0) (by omega) (by omega) u (hp.fresh hb) (hs.fresh hb))
 show Calls _ _ _ _ fun e w'=>e= .returned (.int .i64 0)∧SocTo w S n W most vs (stM most s.m (s.q c)) (upd s.q c (stQ most (s.q c) (g.base+4+3*g.ring+8*g.d+g.i,(g.load.getD g.i 0)))) s.g w'
 generalize hag:g.base+4+3*g.ring+8*g.d+g.i=a at *
 have HL:=Lib.hid hL;clear hL
 have HP:=Lib.hid hP;clear hP
 have HKB:=Lib.hid hkb;clear hkb
 have HKT:=Lib.hid hkt;clear hkt hk
 have HS:=Lib.hid hs
 subst hvl
 clear hs h hp hpc hd hA o1 o2 o3 o4 e1 hag hgd hgt hgl hx8 hi8
 have hn:=ahead_store p
 have hm:=meth_store p
 unfold port
 go_enter Tryz.func158,Tryz.ntmps158
 go_wp2_with fail
 go_region_held3 (fun u=>u.cell? ⟨b,14,none⟩=some (.int .i64 g.d)∧u.cell? ⟨b,12,none⟩=some (.int .i64 g.i)∧u.cell? ⟨b,16,none⟩=some (.slice (some ⟨gl,ol,none⟩) g.load.length cl)∧u.cell? ⟨gl,ol+g.i,none⟩=some (.int .i64 (g.load.getD g.i 0:Nat)))
  (first|exact HKB.out _ hb|assumption)
  (first|(go_at_call 165;refine (HP.out _ (by first|assumption|exact hb)).mono ?_;rintro e w1 ⟨rfl,hB1⟩;have hq1:=HKB.out w1 hB1)|(go_at_call 184;refine (HL.out _ (by first|assumption|exact hb)).mono ?_;rintro e w3 ⟨rfl,hT3⟩;have hq3:=HKT.out w3 _ _ _ hT3))
 go_wp2_with fail
 all_goals (go_ret;exact ⟨rfl,by assumption⟩)
end
section
variable (S:SocL) (n W most:Nat) (vs:Nat→Value) (s:Sc) (p c:Nat) (hc:c<n) (hu:upAt s.g c) (b:Nat) (vf vo vl:Value) (g:Giv) (ok:g.Ok n W) (w:World)
include hc hu ok
set_option maxRecDepth 100000 in
theorem gTouch9 (hpc:g.pc=9) (h:GivAt w b vf vo vl g) (hd:∀k,GivF b vf vo vl k→ ¬SocF S n vs k) (hA:Ahead w) (hp:PortAt w S p c) (hs:SocAt w S n W most vs s.m s.q s.g):
  Calls Tryz.prog 158 #[.pointer (some ⟨b,0,none⟩),port p] w fun e w'=>e= .returned (.int .i64 (s.tch most c (.st (g.base+4+2*g.ring+1*g.d+0) (g.load.length))).2)∧TchTo w S n W most vs c s (.st (g.base+4+2*g.ring+1*g.d+0) (g.load.length)) w':=by
 have cp:=h.blk.cell 11
 simp only [Giv.cells,List.getElem?_cons_zero,List.getElem?_cons_succ,hpc] at cp
 have hb:=(Below.refl w.heap.size w).drew
 have o1:=ok.room
 have o2:=ok.word
 have o3:=ok.r1
 have o4:=ok.r64
 obtain ⟨al,cl,hvl⟩:=(RowI.read h.load).slice
 rw [nats_len] at hvl
 have hl8:=ok.len
 have hd8:=ok.d (by omega) (by omega)
 have hk:∀u,GivAt u b vf vo vl g→u.cell? ⟨b,14,none⟩=some (.int .i64 g.d)∧u.cell? ⟨b,16,none⟩=some (vl):=by
  intro u hu
  exact ⟨by have:=hu.blk.cell 14;simpa [Giv.cells,hpc] using this,by have:=hu.blk.cell 16;simpa [Giv.cells,hpc] using this⟩
 have hkb:∀u,Below w.heap.size w u→u.cell? ⟨b,14,none⟩=some (.int .i64 g.d)∧u.cell? ⟨b,16,none⟩=some (vl):=fun u hb=>hk u (h.fresh hb)
 have hkt:∀u m q g0,SocTo w S n W most vs m q g0 u→u.cell? ⟨b,14,none⟩=some (.int .i64 g.d)∧u.cell? ⟨b,16,none⟩=some (vl):=fun u m q g0 hT=>hk u (h.soc hd hT)
 have e1:((g.base:Int)+4+2*(g.ring:Int)+1*((g.d:Nat):Int)+0)=((g.base+4+2*g.ring+1*g.d+0:Nat):Int):=by omega
 have hP0:=fun u (hb:Below w.heap.size w u)=>gPlace_of b vf vo vl g 7 g.d 0 _ u (h.fresh hb) (plotAt_7 g.base g.ring (g.d) (by omega) (by omega) (by omega) u (hA.fresh hb))
 rw [e1] at hP0
 have hP:=fun u (hb:Below w.heap.size w u)=>from_below hb (hP0 u hb)
 clear hP0
 have hL:=fun u (hb:Below w.heap.size w u)=>from_soc hb (pStore_any S n W most vs s.m s.q s.g p c hc hu (g.base+4+2*g.ring+1*g.d+0) (g.load.length) (by omega) (by omega) u (hp.fresh hb) (hs.fresh hb))
 show Calls _ _ _ _ fun e w'=>e= .returned (.int .i64 0)∧SocTo w S n W most vs (stM most s.m (s.q c)) (upd s.q c (stQ most (s.q c) (g.base+4+2*g.ring+1*g.d+0,(g.load.length)))) s.g w'
 generalize hag:g.base+4+2*g.ring+1*g.d+0=a at *
 have HL:=Lib.hid hL;clear hL
 have HP:=Lib.hid hP;clear hP
 have HKB:=Lib.hid hkb;clear hkb
 have HKT:=Lib.hid hkt;clear hkt hk
 have HS:=Lib.hid hs
 subst hvl
 clear hs h hp hpc hd hA o1 o2 o3 o4 e1 hag
 have hn:=ahead_store p
 have hm:=meth_store p
 unfold port
 go_enter Tryz.func158,Tryz.ntmps158
 go_wp2_with fail
 go_region_held3 (fun u=>u.cell? ⟨b,14,none⟩=some (.int .i64 g.d)∧u.cell? ⟨b,16,none⟩=some (.slice al g.load.length cl))
  (first|exact HKB.out _ hb|assumption)
  (first|(go_at_call 165;refine (HP.out _ (by first|assumption|exact hb)).mono ?_;rintro e w1 ⟨rfl,hB1⟩;have hq1:=HKB.out w1 hB1)|(go_at_call 184;refine (HL.out _ (by first|assumption|exact hb)).mono ?_;rintro e w3 ⟨rfl,hT3⟩;have hq3:=HKT.out w3 _ _ _ hT3))
 go_wp2_with fail
 all_goals (go_ret;exact ⟨rfl,by assumption⟩)
set_option maxRecDepth 100000 in
theorem gTouch10 (hpc:g.pc=10) (h:GivAt w b vf vo vl g) (hd:∀k,GivF b vf vo vl k→ ¬SocF S n vs k) (hA:Ahead w) (hp:PortAt w S p c) (hs:SocAt w S n W most vs s.m s.q s.g):
  Calls Tryz.prog 158 #[.pointer (some ⟨b,0,none⟩),port p] w fun e w'=>e= .returned (.int .i64 (s.tch most c (.st (g.base+4+0*g.ring+1*(g.next%g.ring)+0) (g.d))).2)∧TchTo w S n W most vs c s (.st (g.base+4+0*g.ring+1*(g.next%g.ring)+0) (g.d)) w':=by
 have cp:=h.blk.cell 11
 simp only [Giv.cells,List.getElem?_cons_zero,List.getElem?_cons_succ,hpc] at cp
 have hb:=(Below.refl w.heap.size w).drew
 have o1:=ok.room
 have o2:=ok.word
 have o3:=ok.r1
 have o4:=ok.r64
 have hd8:=ok.d (by omega) (by omega)
 have hk:∀u,GivAt u b vf vo vl g→u.cell? ⟨b,9,none⟩=some (.int .i64 g.next)∧u.cell? ⟨b,1,none⟩=some (.int .i64 g.ring)∧u.cell? ⟨b,14,none⟩=some (.int .i64 g.d):=by
  intro u hu
  exact ⟨by have:=hu.blk.cell 9;simpa [Giv.cells,hpc] using this,by have:=hu.blk.cell 1;simpa [Giv.cells,hpc] using this,by have:=hu.blk.cell 14;simpa [Giv.cells,hpc] using this⟩
 have hkb:∀u,Below w.heap.size w u→u.cell? ⟨b,9,none⟩=some (.int .i64 g.next)∧u.cell? ⟨b,1,none⟩=some (.int .i64 g.ring)∧u.cell? ⟨b,14,none⟩=some (.int .i64 g.d):=fun u hb=>hk u (h.fresh hb)
 have hkt:∀u m q g0,SocTo w S n W most vs m q g0 u→u.cell? ⟨b,9,none⟩=some (.int .i64 g.next)∧u.cell? ⟨b,1,none⟩=some (.int .i64 g.ring)∧u.cell? ⟨b,14,none⟩=some (.int .i64 g.d):=fun u m q g0 hT=>hk u (h.soc hd hT)
 have hr0: ¬g.ring=0:=by omega
 have hr1: ¬(g.ring:Int)=0:=by omega
 have hrm:g.next%g.ring<g.ring:=Nat.mod_lt _ (by omega)
 have hrt:Int.tmod (g.next:Int) (g.ring:Int)=((g.next%g.ring:Nat):Int):=rfl
 have e1:((g.base:Int)+4+0*(g.ring:Int)+1*(((g.next%g.ring):Nat):Int)+0)=((g.base+4+0*g.ring+1*(g.next%g.ring)+0:Nat):Int):=by omega
 have hP0:=fun u (hb:Below w.heap.size w u)=>gPlace_of b vf vo vl g 5 ((g.next%g.ring:Nat):Int) 0 _ u (h.fresh hb) (plotAt_5 g.base g.ring ((g.next%g.ring)) (by omega) (by omega) (by omega) u (hA.fresh hb))
 rw [e1] at hP0
 have hP:=fun u (hb:Below w.heap.size w u)=>from_below hb (hP0 u hb)
 clear hP0
 have hL:=fun u (hb:Below w.heap.size w u)=>from_soc hb (pStore_any S n W most vs s.m s.q s.g p c hc hu (g.base+4+0*g.ring+1*(g.next%g.ring)+0) (g.d) (by omega) (by omega) u (hp.fresh hb) (hs.fresh hb))
 show Calls _ _ _ _ fun e w'=>e= .returned (.int .i64 0)∧SocTo w S n W most vs (stM most s.m (s.q c)) (upd s.q c (stQ most (s.q c) (g.base+4+0*g.ring+1*(g.next%g.ring)+0,(g.d)))) s.g w'
 generalize hag:g.base+4+0*g.ring+1*(g.next%g.ring)+0=a at *
 have HL:=Lib.hid hL;clear hL
 have HP:=Lib.hid hP;clear hP
 have HKB:=Lib.hid hkb;clear hkb
 have HKT:=Lib.hid hkt;clear hkt hk
 have HS:=Lib.hid hs
 clear hs h hp hpc hd hA o1 o2 o3 o4 e1 hag
 have hn:=ahead_store p
 have hm:=meth_store p
 unfold port
 go_enter Tryz.func158,Tryz.ntmps158
 go_wp2_with fail
 go_region_held3 (fun u=>u.cell? ⟨b,9,none⟩=some (.int .i64 g.next)∧u.cell? ⟨b,1,none⟩=some (.int .i64 g.ring)∧u.cell? ⟨b,14,none⟩=some (.int .i64 g.d))
  (first|exact HKB.out _ hb|assumption)
  (first|(go_at_call 165;refine (HP.out _ (by first|assumption|exact hb)).mono ?_;rintro e w1 ⟨rfl,hB1⟩;have hq1:=HKB.out w1 hB1)|(go_at_call 184;refine (HL.out _ (by first|assumption|exact hb)).mono ?_;rintro e w3 ⟨rfl,hT3⟩;have hq3:=HKT.out w3 _ _ _ hT3))
 go_wp2_with fail
 all_goals (go_ret;exact ⟨rfl,by assumption⟩)
set_option maxRecDepth 100000 in
theorem gTouch12 (hpc:g.pc=12) (h:GivAt w b vf vo vl g) (hd:∀k,GivF b vf vo vl k→ ¬SocF S n vs k) (hA:Ahead w) (hp:PortAt w S p c) (hs:SocAt w S n W most vs s.m s.q s.g):
  Calls Tryz.prog 158 #[.pointer (some ⟨b,0,none⟩),port p] w fun e w'=>e= .returned (.int .i64 (s.tch most c (.st (g.base+2) ((g.next+1)%65536))).2)∧TchTo w S n W most vs c s (.st (g.base+2) ((g.next+1)%65536)) w':=by
 have cp:=h.blk.cell 11
 simp only [Giv.cells,List.getElem?_cons_zero,List.getElem?_cons_succ,hpc] at cp
 have hb:=(Below.refl w.heap.size w).drew
 have o1:=ok.room
 have o2:=ok.word
 have o3:=ok.r1
 have o4:=ok.r64
 have hk:∀u,GivAt u b vf vo vl g→u.cell? ⟨b,9,none⟩=some (.int .i64 g.next):=by
  intro u hu
  exact (by have:=hu.blk.cell 9;simpa [Giv.cells,hpc] using this)
 have hkb:∀u,Below w.heap.size w u→u.cell? ⟨b,9,none⟩=some (.int .i64 g.next):=fun u hb=>hk u (h.fresh hb)
 have hkt:∀u m q g0,SocTo w S n W most vs m q g0 u→u.cell? ⟨b,9,none⟩=some (.int .i64 g.next):=fun u m q g0 hT=>hk u (h.soc hd hT)
 have e1:((g.base:Int)+3-1)=((g.base+2:Nat):Int):=by omega
 have hP0:=fun u (hb:Below w.heap.size w u)=>gPlace_of b vf vo vl g 3 0 0 _ u (h.fresh hb) (plotAt_one g.base g.ring 3 (by omega) (by omega) (by omega) u)
 rw [e1] at hP0
 have hP:=fun u (hb:Below w.heap.size w u)=>from_below hb (hP0 u hb)
 clear hP0
 have hE:=fun u=>add_any g.next 1 u
 have hep:(((g.next:Int)+1)%65536)=(((g.next+1)%65536:Nat):Int):=by omega
 rw [hep] at hE
 have hx0:(g.next+1)%65536<65536:=by omega
 generalize (g.next+1)%65536=x at *
 have hL:=fun u (hb:Below w.heap.size w u)=>from_soc hb (pStore_any S n W most vs s.m s.q s.g p c hc hu (g.base+2) (x) (by omega) (by omega) u (hp.fresh hb) (hs.fresh hb))
 show Calls _ _ _ _ fun e w'=>e= .returned (.int .i64 0)∧SocTo w S n W most vs (stM most s.m (s.q c)) (upd s.q c (stQ most (s.q c) (g.base+2,x))) s.g w'
 generalize hag:g.base+2=a at *
 have HL:=Lib.hid hL;clear hL
 have HP:=Lib.hid hP;clear hP
 have HE:=Lib.hid hE;clear hE
 have HKB:=Lib.hid hkb;clear hkb
 have HKT:=Lib.hid hkt;clear hkt hk
 have HS:=Lib.hid hs
 clear hs h hp hpc hd hA o1 o2 o3 o4 e1 hep hx0 hag
 have hn:=ahead_store p
 have hm:=meth_store p
 unfold port
 go_enter Tryz.func158,Tryz.ntmps158
 go_wp2_with fail
 go_region_held3 (fun u=>u.cell? ⟨b,9,none⟩=some (.int .i64 g.next))
  (first|exact HKB.out _ hb|assumption)
  (first|(go_at_call 165;refine (HP.out _ (by first|assumption|exact hb)).mono ?_;rintro e w1 ⟨rfl,hB1⟩;have hq1:=HKB.out w1 hB1)|(go_at_call 103;refine (HE.out _).mono ?_;rintro e w2 ⟨rfl,rfl⟩)|(go_at_call 184;refine (HL.out _ (by first|assumption|exact hb)).mono ?_;rintro e w3 ⟨rfl,hT3⟩;have hq3:=HKT.out w3 _ _ _ hT3))
 go_wp2_with fail
 all_goals (go_ret;exact ⟨rfl,by assumption⟩)
end
end Go.Proofs.YtaaffebnajjfhaaGreatDoor.T
