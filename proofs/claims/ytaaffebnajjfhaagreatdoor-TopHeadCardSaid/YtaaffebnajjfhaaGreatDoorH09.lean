/- Texts of this proof, merged: Site2, Soc, Soc2, Soc3, Port, Plot, Slices, Delete, Model, Model2, Chan, ChanG, ChanH, ChanI. -/
import Derived.Test.YtaaffebnajjfhaaGreatDoorH07
import Derived.Laws.Rows
import Derived.Test.YtaaffebnajjfhaaGreatDoorH05
import Derived.Test.YtaaffebnajjfhaaGreatDoorH03
import Derived.Test.YtaaffebnajjfhaaGreatDoorH08
import Derived.Test.YtaaffebnajjfhaaGreatDoorH06
namespace Go.Proofs.YtaaffebnajjfhaaGreatDoor.T
set_option linter.unusedVariables false
set_option linter.unusedSimpArgs false
set_option linter.unusedSectionVars false
open Go.RowKit
theorem size124:(Tryz.prog.info? 124).map (·.size)=some 3:=by kernel_rfl
set_option maxRecDepth 100000 in
theorem guess_ram (a:Int) (ha:a<65536) (w:World):
  Calls Tryz.prog 126 #[.int .i64 a] w fun e w'=>e= .returned (.agg #[.int .i64 1, .int .i64 0, .int .i64 a])∧Below w.heap.size w w':=by
 go_enter Tryz.func126,Tryz.ntmps126
 go_wp2_with fail
 refine bodyPost_ret (results_cell_row rfl _ _ w.heap.size 124 #[.int .i64 1, .int .i64 0, .int .i64 a] (0,0) _ rfl (Blk.new w 124 [.int .i64 1, .int .i64 0, .int .i64 a]) Tryz.underlying124 rfl size124) rfl ?_
 exact ⟨rfl,(Below.refl _ w).alloc (Nat.le_refl _) _⟩
set_option maxRecDepth 100000 in
theorem guess_mail (d:Int) (h0:0≤d) (h1:d<8) (w:World):
  Calls Tryz.prog 126 #[.int .i64 (65538+16*d)] w fun e w'=>e= .returned (.agg #[.int .i64 2, .int .i64 d, .int .i64 2])∧Below w.heap.size w w':=by
 obtain ⟨a,ha⟩:∃a,a=65538+16*d:=⟨_,rfl⟩
 have e1: ¬a<65536:=by omega
 have e2:a<65792:=by omega
 have e3:IntKind.i64.wrap (a-65536)=2+16*d:=by rw [IntKind.wrap_i64];omega
 have e4:(2+16*d).tdiv 16=d:=by rw [Int.tdiv_eq_ediv_of_nonneg (by omega)];omega
 have e5:a.tmod 16=2:=by rw [Int.tmod_eq_emod_of_nonneg (by omega)];omega
 rw [←ha]
 have HA:=Lib.hid ha;clear ha
 go_enter Tryz.func126,Tryz.ntmps126
 go_wp2_with fail
 refine bodyPost_ret (results_cell_row rfl _ _ w.heap.size 124 #[.int .i64 2, .int .i64 d, .int .i64 2] (0,0) _ rfl (Blk.new w 124 [.int .i64 2, .int .i64 d, .int .i64 2]) Tryz.underlying124 rfl size124) rfl ?_
 exact ⟨rfl,(Below.refl _ w).alloc (Nat.le_refl _) _⟩
set_option maxRecDepth 100000 in
theorem guess_gate (d:Int) (h0:0≤d) (h1:d<8) (w:World):
  Calls Tryz.prog 126 #[.int .i64 (66048+d)] w fun e w'=>e= .returned (.agg #[.int .i64 4, .int .i64 d, .int .i64 0])∧Below w.heap.size w w':=by
 obtain ⟨a,ha⟩:∃a,a=66048+d:=⟨_,rfl⟩
 have e1: ¬a<65536:=by omega
 have e2: ¬a<65792:=by omega
 have e2': ¬a<66048:=by omega
 have e3:IntKind.i64.wrap (a-66048)=d:=by rw [IntKind.wrap_i64];omega
 rw [←ha]
 have HA:=Lib.hid ha;clear ha
 go_enter Tryz.func126,Tryz.ntmps126
 go_wp2_with fail
 refine bodyPost_ret (results_cell_row rfl _ _ w.heap.size 124 #[.int .i64 4, .int .i64 d, .int .i64 0] (0,0) _ rfl (Blk.new w 124 [.int .i64 4, .int .i64 d, .int .i64 0]) Tryz.underlying124 rfl size124) rfl ?_
 exact ⟨rfl,(Below.refl _ w).alloc (Nat.le_refl _) _⟩
theorem res_st {fn:Func} {p u:Tmp} {ty:TypeId} (h:fn.results= #[.cell p ty, .tmp u]) (tmps:Array Value) (w:World) (b:Nat) (cs:Array Value)
  (hp:tmps.getD p undef= .pointer (some ⟨b,0,none⟩)) (hl:(loadVar ty ⟨b,0,none⟩).run Tryz.prog w= .ok (.agg cs) w):(results fn tmps).run Tryz.prog w= .ok (.tuple #[.agg cs,tmps.getD u undef]) w:=by
 rw [results_cell_tmp h,hp]
 simp [asAddr,hl,Result.andThen]
set_option maxRecDepth 100000 in
theorem decode_of (n W:Nat) (a k i r:Int) (G:∀w,Calls Tryz.prog 126 #[.int .i64 a] w fun e w'=>e= .returned (.agg #[.int .i64 k, .int .i64 i, .int .i64 r])∧Below w.heap.size w w')
  (E:∀w,Calls Tryz.prog 127 #[.agg #[.int .i64 n, .int .i64 W, .int .i64 1], .agg #[.int .i64 k, .int .i64 i, .int .i64 r]] w fun e w'=>e= .returned (.tuple #[.int .i64 a, .bool true])∧Below w.heap.size w w') (w:World):
  Calls Tryz.prog 105 #[.agg #[.int .i64 n, .int .i64 W, .int .i64 1], .int .i64 a] w fun e w'=>e= .returned (.tuple #[.agg #[.int .i64 k, .int .i64 i, .int .i64 r], .bool true])∧Below w.heap.size w w':=by
 have HG:=Lib.hid G;clear G
 have HE:=Lib.hid E;clear E
 have hz:Below w.heap.size w ((w.alloc (.cells #[.int .i64 n, .int .i64 W, .int .i64 1] 62)).alloc (.cells #[.int .i64 0, .int .i64 0, .int .i64 0] 124)):=((Below.refl _ w).alloc (Nat.le_refl _) _).alloc (by simp) _
 have p0:=(Blk.new w 62 [.int .i64 n, .int .i64 W, .int .i64 1]).alloc (.cells #[.int .i64 0, .int .i64 0, .int .i64 0] 124)
 have s0:=Blk.new (w.alloc (.cells #[.int .i64 n, .int .i64 W, .int .i64 1] 62)) 124 [.int .i64 0, .int .i64 0, .int .i64 0]
 rw [World.size_alloc] at s0
 have HZ:=Lib.hid hz;clear hz
 have HP:=Lib.hid p0;clear p0
 have HS:=Lib.hid s0;clear s0
 go_enter Tryz.func105,Tryz.ntmps105
 go_wp2_with fail
 refine (HG.out _).mono ?_
 rintro e w1 ⟨rfl,hB1⟩
 have p1:=(Blk.keep HP.out (Keep.ofFresh hB1 (B:=0) (F:=fun _=>False)) (fun q=>q)).alloc (.cells #[.int .i64 k, .int .i64 i, .int .i64 r] 124)
 have s1:=(Blk.keep HS.out (Keep.ofFresh hB1 (B:=0) (F:=fun _=>False)) (fun q=>q)).alloc (.cells #[.int .i64 k, .int .i64 i, .int .i64 r] 124)
 have t1:=Blk.new w1 124 [.int .i64 k, .int .i64 i, .int .i64 r]
 have c0:=p1.cell 0
 have c1:=p1.cell 1
 have c2:=p1.cell 2
 have d0:=s1.cell 0
 have d1:=s1.cell 1
 have d2:=s1.cell 2
 have f0:=s1.free 0
 have f1:=s1.free 1
 have f2:=s1.free 2
 have t10:=t1.cell 0
 have t11:=t1.cell 1
 have t12:=t1.cell 2
 simp only [List.getElem?_cons_zero,List.getElem?_cons_succ] at c0 c1 c2 d0 d1 d2 t10 t11 t12
 have HP1:=Lib.hid ((HZ.out.trans (hB1.mono HZ.out.size)).alloc (Nat.le_trans HZ.out.size hB1.size) (.cells #[.int .i64 k, .int .i64 i, .int .i64 r] 124))
 have HS1:=Lib.hid s1
 have HT1:=Lib.hid t1
 clear p1 s1 t1 hB1
 go_wp2_with fail
 refine (HE.out _).mono ?_
 rintro e w2 ⟨rfl,hB2⟩
 clear c0 c1 c2 d0 d1 d2 f0 f1 f2 t10 t11 t12
 have s2:=Blk.keep HS1.out (Keep.ofFresh hB2 (B:=0) (F:=fun _=>False)) (fun q=>q)
 have t2:=Blk.keep HT1.out (Keep.ofFresh hB2 (B:=0) (F:=fun _=>False)) (fun q=>q)
 have d0:=s2.cell 0
 have d1:=s2.cell 1
 have d2:=s2.cell 2
 have f0:=s2.free 0
 have f1:=s2.free 1
 have f2:=s2.free 2
 have t0:=t2.cell 0
 have t1:=t2.cell 1
 have t3:=t2.cell 2
 simp only [List.getElem?_cons_zero,List.getElem?_cons_succ] at d0 d1 d2 t0 t1 t3
 have hs:=((s2.set 0 (.int .i64 k)).set 1 (.int .i64 i)).set 2 (.int .i64 r)
 have hb:=(((HP1.out.trans (hB2.mono HP1.out.size)).setCell (p:=⟨w.heap.size+1,0,none⟩) (by simp) (.int .i64 k)).setCell (p:=⟨w.heap.size+1,1,none⟩) (by simp) (.int .i64 i)).setCell (p:=⟨w.heap.size+1,2,none⟩) (by simp) (.int .i64 r)
 have HS2:=Lib.hid hs
 have HB2:=Lib.hid hb
 clear hs hb s2 t2 hB2
 go_wp2_with fail
 refine bodyPost_ret (res_st rfl _ _ (w.heap.size+1) #[.int .i64 k, .int .i64 i, .int .i64 r] rfl (run_loadVar_row _ _ 124 124 _ (0,0) _ HS2.out Tryz.underlying124 rfl size124)) rfl ?_
 exact ⟨rfl,HB2.out⟩
theorem decode_ram (n W:Nat) (a:Nat) (h0:1≤n) (h1:n≤8) (h2:1≤W) (h3:W≤65536) (ha:a<W) (w:World):
  Calls Tryz.prog 105 #[.agg #[.int .i64 n, .int .i64 W, .int .i64 1], .int .i64 a] w fun e w'=>e= .returned (.tuple #[.agg #[.int .i64 1, .int .i64 0, .int .i64 a], .bool true])∧Below w.heap.size w w':=
 decode_of n W a 1 0 a (guess_ram a (by omega)) (enc_ram n W a h0 h1 h2 h3 ha) w
theorem decode_mail (n W:Nat) (d:Nat) (h0:1≤n) (h1:n≤8) (h2:1≤W) (h3:W≤65536) (hd:d<n) (w:World):
  Calls Tryz.prog 105 #[.agg #[.int .i64 n, .int .i64 W, .int .i64 1], .int .i64 (65538+16*d)] w fun e w'=>e= .returned (.tuple #[.agg #[.int .i64 2, .int .i64 d, .int .i64 2], .bool true])∧Below w.heap.size w w':=
 decode_of n W _ 2 d 2 (guess_mail d (by omega) (by omega)) (enc_mail n W d h0 h1 h2 h3 hd) w
theorem decode_gate (n W:Nat) (d:Nat) (h0:1≤n) (h1:n≤8) (h2:1≤W) (h3:W≤65536) (hd:d<n) (w:World):
  Calls Tryz.prog 105 #[.agg #[.int .i64 n, .int .i64 W, .int .i64 1], .int .i64 (66048+d)] w fun e w'=>e= .returned (.tuple #[.agg #[.int .i64 4, .int .i64 d, .int .i64 0], .bool true])∧Below w.heap.size w w':=
 decode_of n W _ 4 d 0 (guess_gate d (by omega) (by omega)) (enc_gate n W d h0 h1 h2 h3 hd) w
structure SocL where
 soc:Nat
 locks:Nat
 gate:Nat
 B:BusL
 X:BoxL
structure SocAt (w:World) (S:SocL) (n W most:Nat) (vs:Nat→Value) (m:Nat→Nat) (q:Nat→List (Nat × Nat)) (g:Gates.Gt):Prop where
 blk:Blk w S.soc 103 [.int .i64 n, .int .i64 W, .int .i64 1, .pointer (some ⟨S.B.bus,0,none⟩), .pointer (some ⟨S.X.box,0,none⟩), .pointer (some ⟨S.locks,0,none⟩), .pointer (some ⟨S.gate,0,none⟩)]
 bus:BusAt w S.B n W most vs m q
 box:BoxAt w S.X n
 locks:∃k,Banks.At w S.locks k∧k.Ok∧k.cores=n
 gate:Gates.At w S.gate g
 ok:g.Ok
 cores:g.cores=n
 n1:1≤n
 W1:1≤W
 apart:∀i,i<n→S.X.room i≠S.B.row
def SocF (S:SocL) (n:Nat) (vs:Nat→Value) (k:Nat):Prop:=k=S.locks∨k=S.gate∨(∃c,c<n∧BusF S.B vs c k)∨BoxF S.X n k
def SocTo (w:World) (S:SocL) (n W most:Nat) (vs:Nat→Value) (m':Nat→Nat) (q':Nat→List (Nat × Nat)) (g':Gates.Gt) (w':World):Prop:=
 ∃vs',SocAt w' S n W most vs' m' q' g'∧Keep (SocF S n vs) w w'∧∀k,SocF S n vs' k→SocF S n vs k∨w.heap.size≤k
section
variable {w w' w'':World} {S:SocL} {n W most:Nat} {vs:Nat→Value} {m:Nat→Nat} {q:Nat→List (Nat × Nat)} {g:Gates.Gt}
theorem SocAt.fresh (h:SocAt w S n W most vs m q g) (hk:Below w.heap.size w w'):SocAt w' S n W most vs m q g:=by
 obtain ⟨k,hl,hlo⟩:=h.locks
 have hK:Keep (fun _=>False) w w':=Keep.ofFresh hk (B:=0)
 exact ⟨h.blk.keep hK (fun q=>q),h.bus.fresh hk,h.box.fresh hk,⟨k,Blk.keep (cs:=k.cells) hl hK (fun q=>q),hlo⟩,Blk.keep (cs:=g.cells) h.gate hK (fun q=>q),h.ok,h.cores,h.n1,h.W1,h.apart⟩
theorem SocTo.refl (h:SocAt w S n W most vs m q g):SocTo w S n W most vs m q g w:=⟨vs,h,Keep.refl _ _,fun k hk=> .inl hk⟩
theorem SocTo.from_ {m':Nat→Nat} {q':Nat→List (Nat × Nat)} {g':Gates.Gt} (hb:Below w.heap.size w w') (h:SocTo w' S n W most vs m' q' g' w''):SocTo w S n W most vs m' q' g' w'':=by
 obtain ⟨vs',h1,h2,h3⟩:=h
 exact ⟨vs',h1,(Keep.ofFresh hb (B:=0)).trans' h2,fun k hk=>(h3 k hk).imp id (fun e=>Nat.le_trans hb.size e)⟩
theorem SocTo.fresh {m':Nat→Nat} {q':Nat→List (Nat × Nat)} {g':Gates.Gt} (h:SocTo w S n W most vs m' q' g' w') (hb:Below w'.heap.size w' w''):SocTo w S n W most vs m' q' g' w'':=by
 obtain ⟨vs',h1,h2,h3⟩:=h
 exact ⟨vs',h1.fresh hb,h2.trans' (Keep.ofFresh hb (B:=0)),h3⟩
theorem SocTo.trans {m1 m2:Nat→Nat} {q1 q2:Nat→List (Nat × Nat)} {g1 g2:Gates.Gt} (h:SocTo w S n W most vs m1 q1 g1 w') (k:∀vs1,SocAt w' S n W most vs1 m1 q1 g1→SocTo w' S n W most vs1 m2 q2 g2 w''):SocTo w S n W most vs m2 q2 g2 w'':=by
 obtain ⟨v1,h1,k1,o1⟩:=h
 obtain ⟨v2,h2,k2,o2⟩:=k v1 h1
 refine ⟨v2,h2,k1.trans k2 (fun k hk hF=> ?_),fun k hk=> ?_⟩
 ·rcases o1 k hF with e|e
  ·exact e
  ·omega
 ·rcases o2 k hk with e|e
  ·exact o1 k e
  ·exact .inr (Nat.le_trans k1.size e)
theorem SocAt.busTo (h:SocAt w S n W most vs m q g) {c:Nat} (hc:c<n) {m':Nat→Nat} {l':List (Nat × Nat)} (hT:BusTo w S.B n W most vs q c m' l' w'):SocTo w S n W most vs m' (upd q c l') g w':=by
 obtain ⟨v',hB,hK,hO⟩:=hT
 obtain ⟨k,hl,hlo⟩:=h.locks
 have hb:=h.bus.buf c hc
 have ne:∀ {b:Nat} {ty:TypeId} {cs:List Value},Blk w b ty cs→ty≠186→ty≠197→b≠S.B.row→ ¬BusF S.B vs c b:=fun hB t4 t5 hr=>busF_box h.bus hc hB t4 t5 hr
 refine ⟨upd vs c v',⟨h.blk.keep hK (ne h.blk (by decide) (by decide) (h.blk.ne h.bus.ram.row (by decide))),hB, ?_,⟨k,Blk.keep (cs:=k.cells) hl hK (ne (cs:=k.cells) hl (by decide) (by decide) (Blk.ne (cs:=k.cells) hl h.bus.ram.row (by decide))),hlo⟩,
  Blk.keep (cs:=g.cells) h.gate hK (ne (cs:=g.cells) h.gate (by decide) (by decide) (Blk.ne (cs:=g.cells) h.gate h.bus.ram.row (by decide))),h.ok,h.cores,h.n1,h.W1,h.apart⟩,hK.mono (fun k _ e=> .inr (.inr (.inl ⟨c,hc,e⟩))),fun k hk=> ?_⟩
 ·obtain ⟨cs,hall,hcs⟩:=h.box.all
  refine h.box.keep hK (ne h.box.box (by decide) (by decide) (h.box.box.ne h.bus.ram.row (by decide))) (ne hall (by decide) (by decide) (hall.ne h.bus.ram.row (by decide))) (fun i hi=> ?_)
  obtain ⟨f,hh,hL⟩:=h.box.lane i hi
  obtain ⟨xs,hx,_⟩:=hL.row
  exact ⟨ne hL.blk (by decide) (by decide) (hL.blk.ne h.bus.ram.row (by decide)),ne hx (by decide) (by decide) (h.apart i hi)⟩
 ·rcases hk with e|e|⟨d,hd,e⟩|e
  ·exact .inl (.inl e)
  ·exact .inl (.inr (.inl e))
  ·by_cases hdc:d=c
   ·subst hdc
    rcases e with e|e|e
    ·exact .inl (.inr (.inr (.inl ⟨d,hd, .inl e⟩)))
    ·exact .inl (.inr (.inr (.inl ⟨d,hd, .inr (.inl e)⟩)))
    ·rw [upd_same] at e
     rcases hO k e with e|e
     ·exact .inl (.inr (.inr (.inl ⟨d,hd, .inr (.inr e)⟩)))
     ·exact .inr e
   ·refine .inl (.inr (.inr (.inl ⟨d,hd, ?_⟩)))
    unfold BusF at e
    rw [upd_other _ _ _ _ hdc] at e
    exact e
  ·exact .inl (.inr (.inr (.inr e)))
theorem SocAt.boxTo (h:SocAt w S n W most vs m q g) (hX:BoxAt w' S.X n) (hK:Keep (BoxF S.X n) w w'):SocTo w S n W most vs m q g w':=by
 obtain ⟨k,hl,hlo⟩:=h.locks
 have ne:∀ {b:Nat} {ty:TypeId} {cs:List Value},Blk w b ty cs→ty≠149→ty≠188→(∀i,i<n→b≠S.X.room i)→ ¬BoxF S.X n b:=by
  rintro b ty cs hB t1 t2 hr (e|⟨i,hi,e|e⟩)
  ·obtain ⟨cs',hall,_⟩:=h.box.all
   exact hB.ne hall t1 e
  ·obtain ⟨f,hh,hL⟩:=h.box.lane i hi
   exact hB.ne hL.blk t2 e
  ·exact hr i hi e
 have ne3:∀ {b:Nat} {ty:TypeId} {cs:List Value},Blk w b ty cs→ty≠149→ty≠188→ty≠3→ ¬BoxF S.X n b:=by
  intro b ty cs hB t1 t2 t3
  refine ne hB t1 t2 (fun i hi e=> ?_)
  obtain ⟨f,hh,hL⟩:=h.box.lane i hi
  obtain ⟨xs,hx,_⟩:=hL.row
  exact hB.ne hx t3 e
 refine ⟨vs,⟨h.blk.keep hK (ne3 h.blk (by decide) (by decide) (by decide)), ?_,hX,⟨k,Blk.keep (cs:=k.cells) hl hK (ne3 (cs:=k.cells) hl (by decide) (by decide) (by decide)),hlo⟩,Blk.keep (cs:=g.cells) h.gate hK (ne3 (cs:=g.cells) h.gate (by decide) (by decide) (by decide)),h.ok,h.cores,h.n1,h.W1,h.apart⟩,hK.mono (fun k _ e=> .inr (.inr (.inr e))),fun k hk=> .inl hk⟩
 refine h.bus.keep hK (ne3 h.bus.bus (by decide) (by decide) (by decide)) (ne3 h.bus.ram.blk (by decide) (by decide) (by decide)) (ne h.bus.ram.row (by decide) (by decide) (fun i hi e=>h.apart i hi e.symm)) (ne3 h.bus.bufs (by decide) (by decide) (by decide)) (fun i hi=>ne3 (h.bus.buf i hi).blk (by decide) (by decide) (by decide)) (fun i hi k hk=> ?_)
 obtain ⟨cur,hcur⟩:=(h.bus.buf i hi).row.typed k hk
 exact ne3 hcur (by decide) (by decide) (by decide)
theorem SocAt.gateTo (h:SocAt w S n W most vs m q g) {g':Gates.Gt} (hG:Gates.At w' S.gate g') (hok:g'.Ok) (hc:g'.cores=n) (hg:w.grownBy w' (some S.gate)):SocTo w S n W most vs m q g' w':=by
 obtain ⟨k,hl,hlo⟩:=h.locks
 have hK:Keep (fun k=>k=S.gate) w w':=(Keep.grown hg).mono (fun k _ e=>by injection e with e;exact e.symm)
 have hgb:Blk w S.gate 156 g.cells:=h.gate
 obtain ⟨cs,hall,hcs⟩:=h.box.all
 refine ⟨vs,⟨h.blk.keep hK (h.blk.ne hgb (by decide)), ?_, ?_,⟨k,Blk.keep (cs:=k.cells) hl hK (Blk.ne (cs:=k.cells) hl hgb (by decide)),hlo⟩,hG,hok,hc,h.n1,h.W1,h.apart⟩,hK.mono (fun k _ e=> .inr (.inl e)),fun k hk=> .inl hk⟩
 ·exact h.bus.keep hK (h.bus.bus.ne hgb (by decide)) (h.bus.ram.blk.ne hgb (by decide)) (h.bus.ram.row.ne hgb (by decide)) (h.bus.bufs.ne hgb (by decide)) (fun i hi=>(h.bus.buf i hi).blk.ne hgb (by decide)) (fun i hi k hk e=>(h.bus.buf i hi).row.ne hgb (by decide) (by rw [hk,e]))
 ·refine h.box.keep hK (h.box.box.ne hgb (by decide)) (hall.ne hgb (by decide)) (fun i hi=> ?_)
  obtain ⟨f,hh,hL⟩:=h.box.lane i hi
  obtain ⟨xs,hx,_⟩:=hL.row
  exact ⟨hL.blk.ne hgb (by decide),hx.ne hgb (by decide)⟩
theorem SocAt.locksTo (h:SocAt w S n W most vs m q g) {k':Banks.Bk} (hG:Banks.At w' S.locks k') (hok:k'.Ok) (hc:k'.cores=n) (hg:w.grownBy w' (some S.locks)):SocTo w S n W most vs m q g w':=by
 obtain ⟨k,hl,hlo⟩:=h.locks
 have hK:Keep (fun k=>k=S.locks) w w':=(Keep.grown hg).mono (fun k _ e=>by injection e with e;exact e.symm)
 have hgb:Blk w S.locks 152 k.cells:=hl
 obtain ⟨cs,hall,hcs⟩:=h.box.all
 refine ⟨vs,⟨h.blk.keep hK (h.blk.ne hgb (by decide)), ?_, ?_,⟨k',hG,hok,hc⟩,Blk.keep (cs:=g.cells) h.gate hK (Blk.ne (cs:=g.cells) h.gate hgb (by decide)),h.ok,h.cores,h.n1,h.W1,h.apart⟩,hK.mono (fun k _ e=> .inl e),fun k hk=> .inl hk⟩
 ·exact h.bus.keep hK (h.bus.bus.ne hgb (by decide)) (h.bus.ram.blk.ne hgb (by decide)) (h.bus.ram.row.ne hgb (by decide)) (h.bus.bufs.ne hgb (by decide)) (fun i hi=>(h.bus.buf i hi).blk.ne hgb (by decide)) (fun i hi k hk e=>(h.bus.buf i hi).row.ne hgb (by decide) (by rw [hk,e]))
 ·refine h.box.keep hK (h.box.box.ne hgb (by decide)) (hall.ne hgb (by decide)) (fun i hi=> ?_)
  obtain ⟨f,hh,hL⟩:=h.box.lane i hi
  obtain ⟨xs,hx,_⟩:=hL.row
  exact ⟨hL.blk.ne hgb (by decide),hx.ne hgb (by decide)⟩
end
def upAt (g:Gates.Gt) (c:Nat):Prop:=g.held.getD c false=false
theorem socWrong_up (S:SocL) (n W most:Nat) (vs:Nat→Value) (m:Nat→Nat) (q:Nat→List (Nat × Nat)) (g:Gates.Gt) (c:Nat) (hc:c<n) (hu:upAt g c) (w:World) (h:SocAt w S n W most vs m q g):
  Calls Tryz.prog 104 #[.pointer (some ⟨S.soc,0,none⟩), .int .i64 c] w fun e w'=>e= .returned (.int .i64 0)∧w=w':=by
 have c6:=h.blk.cell 6
 simp only [List.getElem?_cons_zero,List.getElem?_cons_succ] at c6
 have hE:Gates.coreE g.cores (c:Int)=0:=by unfold Gates.coreE;rw [h.cores,if_pos (by omega)]
 have hU:Gates.upR g (c:Int)=true:=by unfold Gates.upR;rw [hE,Int.toNat_natCast,hu];rfl
 have HE:=Lib.hid hE;clear hE
 have HU:=Lib.hid hU;clear hU
 have HG:=Lib.hid (And.intro h.gate h.ok);clear h
 go_enter Tryz.func104,Tryz.ntmps104
 go_wp2_with fail
 refine (Gates.epoch_any _ _ g _ HG.out.1 HG.out.2).mono ?_
 rintro e w' ⟨rfl,rfl⟩
 rw [HE.out]
 go_wp2_with fail
 refine (Gates.up_any _ _ g _ HG.out.1 HG.out.2).mono ?_
 rintro e w' ⟨rfl,rfl⟩
 rw [HU.out]
 go_wp2_with fail
 go_ret
 exact ⟨rfl,rfl⟩
def Dec (n W:Nat) (a k i r:Int):Prop:=∀w,Calls Tryz.prog 105 #[.agg #[.int .i64 n, .int .i64 W, .int .i64 1], .int .i64 a] w fun e w'=>e= .returned (.tuple #[.agg #[.int .i64 k, .int .i64 i, .int .i64 r], .bool true])∧Below w.heap.size w w'
set_option maxRecDepth 100000 in
theorem socAt_of (S:SocL) (n W most:Nat) (vs:Nat→Value) (m:Nat→Nat) (q:Nat→List (Nat × Nat)) (g:Gates.Gt) (c:Nat) (hc:c<n) (hu:upAt g c) (a k i r:Int) (D:Dec n W a k i r) (w:World) (h:SocAt w S n W most vs m q g):
  Calls Tryz.prog 61 #[.pointer (some ⟨S.soc,0,none⟩), .int .i64 c, .int .i64 a] w fun e w'=>e= .returned (.tuple #[.agg #[.int .i64 k, .int .i64 i, .int .i64 r], .int .i64 0])∧Below w.heap.size w w':=by
 have hb0:Below w.heap.size w (w.alloc (.cells #[.int .i64 0, .int .i64 0, .int .i64 0] 124)):=(Below.refl _ w).alloc (Nat.le_refl _) _
 have h1:=h.fresh hb0
 have s1:=Blk.new w 124 [.int .i64 0, .int .i64 0, .int .i64 0]
 have p0:=h1.blk.cell 0
 have p1:=h1.blk.cell 1
 have p2:=h1.blk.cell 2
 simp only [List.getElem?_cons_zero,List.getElem?_cons_succ] at p0 p1 p2
 have H1:=Lib.hid h1;clear h1 h
 have HS1:=Lib.hid s1;clear s1
 have HB0:=Lib.hid hb0;clear hb0
 have HD:=Lib.hid D;clear D
 go_enter Tryz.func61,Tryz.ntmps61
 go_wp2_with fail
 refine (socWrong_up S n W most vs m q g c hc hu _ H1.out).mono ?_
 rintro e w' ⟨rfl,rfl⟩
 go_wp2_with fail
 refine (HD.out _).mono ?_
 rintro e w2 ⟨rfl,hB2⟩
 clear p0 p1 p2
 have s2:=(Blk.keep HS1.out (Keep.ofFresh hB2 (B:=0) (F:=fun _=>False)) (fun q=>q)).alloc (.cells #[.int .i64 k, .int .i64 i, .int .i64 r] 124)
 have t2:=Blk.new w2 124 [.int .i64 k, .int .i64 i, .int .i64 r]
 have d0:=s2.cell 0
 have d1:=s2.cell 1
 have d2:=s2.cell 2
 have f0:=s2.free 0
 have f1:=s2.free 1
 have f2:=s2.free 2
 have t0:=t2.cell 0
 have t1:=t2.cell 1
 have t3:=t2.cell 2
 simp only [List.getElem?_cons_zero,List.getElem?_cons_succ] at d0 d1 d2 t0 t1 t3
 have hb2:=(HB0.out.trans (hB2.mono HB0.out.size)).alloc (Nat.le_trans HB0.out.size hB2.size) (.cells #[.int .i64 k, .int .i64 i, .int .i64 r] 124)
 have hs:=((s2.set 0 (.int .i64 k)).set 1 (.int .i64 i)).set 2 (.int .i64 r)
 have hb:=((hb2.setCell (p:=⟨w.heap.size,0,none⟩) (by simp) (.int .i64 k)).setCell (p:=⟨w.heap.size,1,none⟩) (by simp) (.int .i64 i)).setCell (p:=⟨w.heap.size,2,none⟩) (by simp) (.int .i64 r)
 have HS2:=Lib.hid hs
 have HB2:=Lib.hid hb
 clear hs hb hb2 s2 t2 hB2
 go_wp2_with fail
 refine bodyPost_ret (res_st rfl _ _ w.heap.size #[.int .i64 k, .int .i64 i, .int .i64 r] rfl (run_loadVar_row _ _ 124 124 _ (0,0) _ HS2.out Tryz.underlying124 rfl size124)) rfl ?_
 exact ⟨rfl,HB2.out⟩
set_option maxRecDepth 100000 in
theorem socFence_up (S:SocL) (n W most:Nat) (vs:Nat→Value) (m:Nat→Nat) (q:Nat→List (Nat × Nat)) (g:Gates.Gt) (c:Nat) (hc:c<n) (hu:upAt g c) (w:World) (h:SocAt w S n W most vs m q g):
  Calls Tryz.prog 186 #[.pointer (some ⟨S.soc,0,none⟩), .int .i64 c] w fun e w'=>(∃y:Int,e= .returned (.tuple #[.int .i64 y, .int .i64 0]))∧SocTo w S n W most vs (applyAll m (q c)) (upd q c []) g w':=by
 have c3:=h.blk.cell 3
 simp only [List.getElem?_cons_zero,List.getElem?_cons_succ] at c3
 have H:=Lib.hid h;clear h
 go_enter Tryz.func186,Tryz.ntmps186
 go_wp2_with fail
 refine (socWrong_up S n W most vs m q g c hc hu _ H.out).mono ?_
 rintro e w' ⟨rfl,rfl⟩
 go_wp2_with fail
 refine (busFence_any S.B n W most vs m q c hc _ H.out.bus).mono ?_
 rintro e w1 ⟨⟨y,rfl⟩,hT⟩
 have HT:=Lib.hid (H.out.busTo hc hT);clear hT
 go_wp2_with fail
 go_ret2
 exact ⟨⟨y,rfl⟩,HT.out⟩
set_option maxRecDepth 100000 in
theorem socRead_ram (S:SocL) (n W most:Nat) (vs:Nat→Value) (m:Nat→Nat) (q:Nat→List (Nat × Nat)) (g:Gates.Gt) (c:Nat) (hc:c<n) (hu:upAt g c) (a:Nat) (ha:a<W) (w:World) (h:SocAt w S n W most vs m q g):
  Calls Tryz.prog 188 #[.pointer (some ⟨S.soc,0,none⟩), .int .i64 c, .int .i64 a] w fun e w'=>e= .returned (.tuple #[.int .i64 (seen m (q c) a), .int .i64 0])∧Below w.heap.size w w':=by
 have D:Dec n W a 1 0 a:=decode_ram n W a h.n1 h.bus.n8 h.W1 h.bus.ram.most ha
 have H:=Lib.hid h;clear h
 have HD:=Lib.hid D;clear D
 go_enter Tryz.func188,Tryz.ntmps188
 go_wp2_with fail
 refine (socAt_of S n W most vs m q g c hc hu a 1 0 a HD.out _ H.out).mono ?_
 rintro e w1 ⟨rfl,hB1⟩
 have hb1:=hB1.alloc hB1.size (.cells #[.int .i64 1, .int .i64 0, .int .i64 a] 124)
 have h1:=H.out.fresh hb1
 have t1:=Blk.new w1 124 [.int .i64 1, .int .i64 0, .int .i64 a]
 have t0:=t1.cell 0
 have c3:=h1.blk.cell 3
 simp only [List.getElem?_cons_zero,List.getElem?_cons_succ] at t0 c3
 have H1:=Lib.hid h1;clear h1 t1
 go_wp2_with fail
 refine (busLoad_any S.B n W most vs m q c hc a ha _ H1.out.bus).mono ?_
 rintro e w2 ⟨rfl,hB2⟩
 go_wp2_with fail
 go_ret2
 exact ⟨rfl,hb1.trans (hB2.mono hb1.size)⟩
set_option maxRecDepth 100000 in
theorem register_gate (S:SocL) (n W most:Nat) (vs:Nat→Value) (m:Nat→Nat) (q:Nat→List (Nat × Nat)) (g:Gates.Gt) (c d:Nat) (hd:d<n) (w:World) (h:SocAt w S n W most vs m q g):
  Calls Tryz.prog 191 #[.pointer (some ⟨S.soc,0,none⟩), .int .i64 c, .agg #[.int .i64 4, .int .i64 d, .int .i64 0]] w fun e w'=>e= .returned (.int .i64 (g.eps.getD d 0))∧Below w.heap.size w w':=by
 have hb1:Below w.heap.size w (w.alloc (.cells #[.int .i64 4, .int .i64 d, .int .i64 0] 124)):=(Below.refl _ w).alloc (Nat.le_refl _) _
 have h1:=h.fresh hb1
 have t1:=Blk.new w 124 [.int .i64 4, .int .i64 d, .int .i64 0]
 have t0:=t1.cell 0
 have t2:=t1.cell 1
 have c6:=h1.blk.cell 6
 simp only [List.getElem?_cons_zero,List.getElem?_cons_succ] at t0 t2 c6
 have hE:Gates.coreE g.cores (d:Int)=0:=by unfold Gates.coreE;rw [h.cores,if_pos (by omega)]
 have hR:Gates.epR g (d:Int)=g.eps.getD d 0:=by unfold Gates.epR;rw [if_pos hE,Int.toNat_natCast]
 have hC:=Gates.epoch_any S.gate (d:Int) g (w.alloc (.cells #[.int .i64 4, .int .i64 d, .int .i64 0] 124)).drew h1.gate h1.ok
 rw [hE,hR] at hC
 generalize g.eps.getD d 0=x at *
 have HC:=Lib.hid hC;clear hC hE hR
 have HB:=Lib.hid hb1
 clear h1 t1 h hb1
 go_enter Tryz.func191,Tryz.ntmps191
 go_wp2_with fail
 go_region_held3 (fun u=>u.cell? ⟨S.soc,6,none⟩=some (.pointer (some ⟨S.gate,0,none⟩))∧u.cell? ⟨w.heap.size,1,none⟩=some (.int .i64 d))
  (first|exact ⟨c6,t2⟩)
  (first|(go_at_call 60;refine HC.out.mono ?_;rintro e w' ⟨rfl,rfl⟩))
 go_wp2_with fail
 go_ret
 exact ⟨rfl,HB.out.drew⟩
set_option maxRecDepth 100000 in
theorem socRead_gate (S:SocL) (n W most:Nat) (vs:Nat→Value) (m:Nat→Nat) (q:Nat→List (Nat × Nat)) (g:Gates.Gt) (c:Nat) (hc:c<n) (hu:upAt g c) (d:Nat) (hd:d<n) (w:World) (h:SocAt w S n W most vs m q g):
  Calls Tryz.prog 188 #[.pointer (some ⟨S.soc,0,none⟩), .int .i64 c, .int .i64 (66048+d)] w fun e w'=>e= .returned (.tuple #[.int .i64 (g.eps.getD d 0), .int .i64 0])∧SocTo w S n W most vs (applyAll m (q c)) (upd q c []) g w':=by
 have D:Dec n W (66048+d) 4 d 0:=decode_gate n W d h.n1 h.bus.n8 h.W1 h.bus.ram.most hd
 have H:=Lib.hid h;clear h
 have HD:=Lib.hid D;clear D
 go_enter Tryz.func188,Tryz.ntmps188
 go_wp2_with fail
 refine (socAt_of S n W most vs m q g c hc hu _ 4 d 0 HD.out _ H.out).mono ?_
 rintro e w1 ⟨rfl,hB1⟩
 have hb1:=hB1.alloc hB1.size (.cells #[.int .i64 4, .int .i64 d, .int .i64 0] 124)
 have h1:=H.out.fresh hb1
 have t1:=Blk.new w1 124 [.int .i64 4, .int .i64 d, .int .i64 0]
 have t0:=t1.cell 0
 have c3:=h1.blk.cell 3
 simp only [List.getElem?_cons_zero,List.getElem?_cons_succ] at t0 c3
 have hbox: ¬BusF S.B vs c w1.heap.size:=by
  rintro (e|e|e)
  ·have:=H.out.bus.ram.row.lt;have:=hB1.size;omega
  ·have:=(H.out.bus.buf c hc).blk.lt;have:=hB1.size;omega
  ·have:=(H.out.bus.buf c hc).row.lt _ e;have:=hB1.size;omega
 have H1:=Lib.hid h1;clear h1
 go_wp2_with fail
 refine (busFence_any S.B n W most vs m q c hc _ H1.out.bus).mono ?_
 rintro e w2 ⟨⟨y,rfl⟩,hT⟩
 have t2:Blk w2 w1.heap.size 124 [.int .i64 4, .int .i64 d, .int .i64 0]:=by
  obtain ⟨v',hB',hK',hO'⟩:=hT
  exact t1.keep hK' hbox
 have s0:=t2.cell 0
 have s1:=t2.cell 1
 have s2:=t2.cell 2
 simp only [List.getElem?_cons_zero,List.getElem?_cons_succ] at s0 s1 s2
 obtain ⟨v2,hS2,hK2,hO2⟩:=H1.out.busTo hc hT
 have HT:=Lib.hid (SocTo.from_ hb1 ⟨v2,hS2,hK2,hO2⟩)
 have HS2:=Lib.hid hS2
 clear hT hS2 hK2 hO2 t1 t2 hB1 c3 t0
 go_wp2_with fail
 refine (register_gate S n W most _ _ _ g c d hd _ HS2.out).mono ?_
 rintro e w3 ⟨rfl,hB3⟩
 go_wp2_with fail
 go_ret2
 exact ⟨rfl,HT.out.fresh hB3⟩
set_option maxRecDepth 100000 in
theorem may_ram (c a:Int) (w:World):
  Calls Tryz.prog 62 #[.int .i64 c, .agg #[.int .i64 1, .int .i64 0, .int .i64 a]] w fun e w'=>e= .returned (.bool true)∧Below w.heap.size w w':=by
 go_enter Tryz.func62,Tryz.ntmps62
 go_wp2_with fail
 go_ret
 exact ⟨rfl,(Below.refl _ w).alloc (Nat.le_refl _) _⟩
set_option maxRecDepth 100000 in
theorem may_mail (c d:Int) (w:World):
  Calls Tryz.prog 62 #[.int .i64 c, .agg #[.int .i64 2, .int .i64 d, .int .i64 2]] w fun e w'=>e= .returned (.bool true)∧Below w.heap.size w w':=by
 go_enter Tryz.func62,Tryz.ntmps62
 go_wp2_with fail
 go_ret
 exact ⟨rfl,(Below.refl _ w).alloc (Nat.le_refl _) _⟩
set_option maxRecDepth 100000 in
theorem socWrite_ram (S:SocL) (n W most:Nat) (vs:Nat→Value) (m:Nat→Nat) (q:Nat→List (Nat × Nat)) (g:Gates.Gt) (c:Nat) (hc:c<n) (hu:upAt g c) (a x:Nat) (ha:a<W) (hx:x<65536) (w:World) (h:SocAt w S n W most vs m q g):
  Calls Tryz.prog 28 #[.pointer (some ⟨S.soc,0,none⟩), .int .i64 c, .int .i64 a, .int .i64 x] w fun e w'=>e= .returned (.int .i64 0)∧SocTo w S n W most vs (stM most m (q c)) (upd q c (stQ most (q c) (a,x))) g w':=by
 have D:Dec n W a 1 0 a:=decode_ram n W a h.n1 h.bus.n8 h.W1 h.bus.ram.most ha
 have e1:((x:Int) != (x:Int)%65536)=false:=by rw [bne_eq_false_iff_eq];omega
 have H:=Lib.hid h;clear h
 have HD:=Lib.hid D;clear D
 go_enter Tryz.func28,Tryz.ntmps28
 go_wp2_with fail
 refine (socAt_of S n W most vs m q g c hc hu a 1 0 a HD.out _ H.out).mono ?_
 rintro e w1 ⟨rfl,hB1⟩
 have hb1:=hB1.alloc hB1.size (.cells #[.int .i64 1, .int .i64 0, .int .i64 a] 124)
 have t1:=Blk.new w1 124 [.int .i64 1, .int .i64 0, .int .i64 a]
 have t0:=t1.cell 0
 have t2:=t1.cell 1
 have t3:=t1.cell 2
 simp only [List.getElem?_cons_zero,List.getElem?_cons_succ] at t0 t2 t3
 have HT1:=Lib.hid t1;clear t1
 go_wp2_with fail
 refine (may_ram c a _).mono ?_
 rintro e w2 ⟨rfl,hB2⟩
 have hb2:=hb1.trans (hB2.mono hb1.size)
 clear t2 t3
 have s0:=(Blk.keep HT1.out (Keep.ofFresh hB2 (B:=0) (F:=fun _=>False)) (fun q=>q)).cell 0
 have h2:=H.out.fresh hb2
 have c3:=h2.blk.cell 3
 simp only [List.getElem?_cons_zero,List.getElem?_cons_succ] at s0 c3
 have H2:=Lib.hid h2;clear h2
 go_wp2_with fail
 refine (word_any x _).mono ?_
 rintro e w' ⟨rfl,rfl⟩
 go_wp2_with fail
 refine (busStore_any S.B n W most vs m q c hc a x ha hx _ H2.out.bus).mono ?_
 rintro e w3 ⟨rfl,hT⟩
 have HT:=Lib.hid (SocTo.from_ hb2 (H2.out.busTo hc hT))
 clear hT
 go_wp2_with fail
 go_ret
 exact ⟨rfl,HT.out⟩
set_option maxRecDepth 100000 in
theorem socWrite_mail (S:SocL) (n W most:Nat) (vs:Nat→Value) (m:Nat→Nat) (q:Nat→List (Nat × Nat)) (g:Gates.Gt) (c:Nat) (hc:c<n) (hu:upAt g c) (d:Nat) (hd:d<n) (w:World) (h:SocAt w S n W most vs m q g):
  Calls Tryz.prog 28 #[.pointer (some ⟨S.soc,0,none⟩), .int .i64 c, .int .i64 (65538+16*d), .int .i64 c] w fun e w'=>(∃r:Int,e= .returned (.int .i64 r))∧SocTo w S n W most vs (applyAll m (q c)) (upd q c []) g w':=by
 have hn8:=h.bus.n8
 have D:Dec n W (65538+16*d) 2 d 2:=decode_mail n W d h.n1 h.bus.n8 h.W1 h.bus.ram.most hd
 have e1:((c:Int) != (c:Int)%65536)=false:=by rw [bne_eq_false_iff_eq];omega
 have H:=Lib.hid h;clear h
 have HD:=Lib.hid D;clear D
 go_enter Tryz.func28,Tryz.ntmps28
 go_wp2_with fail
 refine (socAt_of S n W most vs m q g c hc hu _ 2 d 2 HD.out _ H.out).mono ?_
 rintro e w1 ⟨rfl,hB1⟩
 have hb1:=hB1.alloc hB1.size (.cells #[.int .i64 2, .int .i64 d, .int .i64 2] 124)
 have t1:=Blk.new w1 124 [.int .i64 2, .int .i64 d, .int .i64 2]
 have t0:=t1.cell 0
 have t2:=t1.cell 1
 have t3:=t1.cell 2
 simp only [List.getElem?_cons_zero,List.getElem?_cons_succ] at t0 t2 t3
 have HT1:=Lib.hid t1;clear t1
 go_wp2_with fail
 refine (may_mail c d _).mono ?_
 rintro e w2 ⟨rfl,hB2⟩
 have hb2:=hb1.trans (hB2.mono hb1.size)
 clear t0 t2 t3
 have t4:=Blk.keep HT1.out (Keep.ofFresh hB2 (B:=0) (F:=fun _=>False)) (fun q=>q)
 have s0:=t4.cell 0
 have h2:=H.out.fresh hb2
 have c3:=h2.blk.cell 3
 simp only [List.getElem?_cons_zero,List.getElem?_cons_succ] at s0 c3
 have H2:=Lib.hid h2;clear h2
 have hw12:w.heap.size≤w1.heap.size:=hB1.size
 go_wp2_with fail
 refine (word_any c _).mono ?_
 rintro e w' ⟨rfl,rfl⟩
 go_wp2_with fail
 refine (busFence_any S.B n W most vs m q c hc _ H2.out.bus).mono ?_
 rintro e w3 ⟨⟨y,rfl⟩,hT⟩
 have t5:Blk w3 w1.heap.size 124 [.int .i64 2, .int .i64 d, .int .i64 2]:=by
  obtain ⟨v',hB',hK',hO'⟩:=hT
  refine t4.keep hK' ?_
  rintro (e|e|e)
  ·have:=H.out.bus.ram.row.lt;omega
  ·have:=(H.out.bus.buf c hc).blk.lt;omega
  ·have:=(H.out.bus.buf c hc).row.lt _ e;omega
 have u1:=t5.cell 1
 have u2:=t5.cell 2
 obtain ⟨v3,hS3,hK3,hO3⟩:=H2.out.busTo hc hT
 have c4:=hS3.blk.cell 4
 simp only [List.getElem?_cons_zero,List.getElem?_cons_succ] at u1 u2 c4
 have HT3:=Lib.hid (SocTo.from_ hb2 ⟨v3,hS3,hK3,hO3⟩)
 have HS3:=Lib.hid hS3
 clear hT hK3 hO3 t4 t5 s0 c3 hS3
 go_wp2_with fail
 have u1d:w3.drew.cell? ⟨w1.heap.size,1,none⟩=some (.int .i64 d):=u1
 have c4d:w3.drew.cell? ⟨S.soc,4,none⟩=some (.pointer (some ⟨S.X.box,0,none⟩)):=c4
 refine wp_region_still_tail 8 (by kernel_rfl) (by kernel_rfl) ?_
 simp only [List.take_succ_cons,List.take_zero,List.drop_succ_cons,List.drop_zero]
 change wpStill _ _ w3.drew _ _ _
 repeat still_step
 refine wpStill_nil ?_
 change wpList _ _ _ _ _ w3.drew
 have hS4:=HS3.out.fresh ((Below.refl w3.heap.size w3).drew)
 have HS4:=Lib.hid hS4;clear hS4
 go_wp2_with fail
 refine (boxRing_any S.X n c d hc hd _ HS4.out.box).mono ?_
 rintro e w5 ⟨⟨r,rfl⟩,hX,hK⟩
 have HT5:=Lib.hid (SocTo.trans (HT3.out.fresh ((Below.refl w3.heap.size w3).drew)) (m2:=applyAll m (q c)) (q2:=upd q c []) (g2:=g) (fun v1 h1=>h1.boxTo hX hK))
 clear hX hK
 go_wp2_with fail
 go_ret
 exact ⟨⟨r,rfl⟩,HT5.out⟩
theorem size62:(Tryz.prog.info? 62).map (·.size)=some 3:=by kernel_rfl
set_option maxRecDepth 100000 in
theorem socPlan_any (S:SocL) (n W most:Nat) (vs:Nat→Value) (m:Nat→Nat) (q:Nat→List (Nat × Nat)) (g:Gates.Gt) (w:World) (h:SocAt w S n W most vs m q g):
  Calls Tryz.prog 189 #[.pointer (some ⟨S.soc,0,none⟩)] w fun e w'=>e= .returned (.agg #[.int .i64 n, .int .i64 W, .int .i64 1])∧Below w.heap.size w w':=by
 have hb1:Below w.heap.size w (w.alloc (.cells #[.int .i64 0, .int .i64 0, .int .i64 0] 62)):=(Below.refl _ w).alloc (Nat.le_refl _) _
 have h1:=h.fresh hb1
 have t1:=Blk.new w 62 [.int .i64 0, .int .i64 0, .int .i64 0]
 have p0:=h1.blk.cell 0
 have p1:=h1.blk.cell 1
 have p2:=h1.blk.cell 2
 simp only [List.getElem?_cons_zero,List.getElem?_cons_succ] at p0 p1 p2
 clear h1 t1 h hb1
 go_enter Tryz.func189,Tryz.ntmps189
 go_wp2_with fail
 refine bodyPost_ret (results_cell_row rfl _ _ w.heap.size 62 #[.int .i64 n, .int .i64 W, .int .i64 1] (0,0) _ rfl (Blk.new w 62 [.int .i64 n, .int .i64 W, .int .i64 1]) Tryz.underlying62 rfl size62) rfl ?_
 exact ⟨rfl,(Below.refl _ w).alloc (Nat.le_refl _) _⟩
def PortAt (w:World) (S:SocL) (p c:Nat):Prop:=Blk w p 165 [.pointer (some ⟨S.soc,0,none⟩), .int .i64 c]
theorem ofCore_any (S:SocL) (c:Int) (w:World):
  Calls Tryz.prog 49 #[.pointer (some ⟨S.soc,0,none⟩), .int .i64 c] w fun e w'=>e= .returned (.pointer (some ⟨w.heap.size,0,none⟩))∧w'=w.alloc (.cells #[.pointer (some ⟨S.soc,0,none⟩), .int .i64 c] 165):=by
 go_enter Tryz.func49,Tryz.ntmps49
 go_wp2_with fail
 go_ret
 exact ⟨rfl,rfl⟩
set_option maxRecDepth 100000 in
theorem spot_of (S:SocL) (n W most:Nat) (vs:Nat→Value) (m:Nat→Nat) (q:Nat→List (Nat × Nat)) (g:Gates.Gt) (p c:Nat) (k i r a:Int) (E:∀w,Calls Tryz.prog 127 #[.agg #[.int .i64 n, .int .i64 W, .int .i64 1], .agg #[.int .i64 k, .int .i64 i, .int .i64 r]] w fun e w'=>e= .returned (.tuple #[.int .i64 a, .bool true])∧Below w.heap.size w w')
  (w:World) (hp:PortAt w S p c) (h:SocAt w S n W most vs m q g):
  Calls Tryz.prog 187 #[.pointer (some ⟨p,0,none⟩), .int .i64 k, .int .i64 i, .int .i64 r] w fun e w'=>e= .returned (.tuple #[.int .i64 a, .bool true])∧Below w.heap.size w w':=by
 have c0:=Blk.cell hp 0
 simp only [List.getElem?_cons_zero,List.getElem?_cons_succ] at c0
 have H:=Lib.hid h;clear h
 have HE:=Lib.hid E;clear E
 have HP:=Lib.hid hp;clear hp
 go_enter Tryz.func187,Tryz.ntmps187
 go_wp2_with fail
 refine (socPlan_any S n W most vs m q g _ H.out).mono ?_
 rintro e w1 ⟨rfl,hB1⟩
 go_wp2_with fail
 refine (HE.out _).mono ?_
 rintro e w2 ⟨rfl,hB2⟩
 go_wp2_with fail
 go_ret2
 exact ⟨rfl,hB1.trans (hB2.mono hB1.size)⟩
theorem PortAt.fresh {w w':World} {S:SocL} {p c:Nat} (h:PortAt w S p c) (hb:Below w.heap.size w w'):PortAt w' S p c:=Blk.keep h (Keep.ofFresh hb (B:=0) (F:=fun _=>False)) (fun q=>q)
set_option maxRecDepth 100000 in
theorem read_of (S:SocL) (n W most:Nat) (vs:Nat→Value) (m:Nat→Nat) (q:Nat→List (Nat × Nat)) (g:Gates.Gt) (p c:Nat) (k i r a x:Int) (E:∀w,Calls Tryz.prog 127 #[.agg #[.int .i64 n, .int .i64 W, .int .i64 1], .agg #[.int .i64 k, .int .i64 i, .int .i64 r]] w fun e w'=>e= .returned (.tuple #[.int .i64 a, .bool true])∧Below w.heap.size w w')
  (R:World→World→Prop) (hRP:∀w w',R w w'→SocAt w S n W most vs m q g→PortAt w S p c→PortAt w' S p c) (D:∀w,SocAt w S n W most vs m q g→Calls Tryz.prog 188 #[.pointer (some ⟨S.soc,0,none⟩), .int .i64 c, .int .i64 a] w fun e w'=>e= .returned (.tuple #[.int .i64 x, .int .i64 0])∧R w w')
  (w:World) (hp:PortAt w S p c) (h:SocAt w S n W most vs m q g):
  Calls Tryz.prog 185 #[.pointer (some ⟨p,0,none⟩), .int .i64 k, .int .i64 i, .int .i64 r] w fun e w'=>e= .returned (.int .i64 x)∧∃w1 w2,Below w.heap.size w w1∧SocAt w1 S n W most vs m q g∧R w1 w2∧Below w2.heap.size w2 w':=by
 have H:=Lib.hid h;clear h
 have HE:=Lib.hid E;clear E
 have HD:=Lib.hid D;clear D
 have HP:=Lib.hid hp;clear hp
 go_enter Tryz.func185,Tryz.ntmps185
 go_wp2_with fail
 refine (spot_of S n W most vs m q g p c k i r a HE.out _ HP.out H.out).mono ?_
 rintro e w1 ⟨rfl,hB1⟩
 have c0:=Blk.cell (HP.out.fresh hB1) 0
 have c1:=Blk.cell (HP.out.fresh hB1) 1
 simp only [List.getElem?_cons_zero,List.getElem?_cons_succ] at c0 c1
 have hS1:=(H.out.fresh hB1).fresh (Below.refl w1.heap.size w1).drew
 have hC:=HD.out _ hS1
 have HC:=Lib.hid hC;clear hC
 have HS1:=Lib.hid hS1;clear hS1
 have HB1:=Lib.hid hB1;clear hB1
 go_wp2_with fail
 have c0d:w1.drew.cell? ⟨p,0,none⟩=some (.pointer (some ⟨S.soc,0,none⟩)):=c0
 have c1d:w1.drew.cell? ⟨p,1,none⟩=some (.int .i64 c):=c1
 have HPd:=Lib.hid ((HP.out.fresh HB1.out).fresh (Below.refl w1.heap.size w1).drew)
 go_region_held3 (fun u=>u.cell? ⟨p,0,none⟩=some (.pointer (some ⟨S.soc,0,none⟩))∧u.cell? ⟨p,1,none⟩=some (.int .i64 c))
  (first|exact ⟨c0d,c1d⟩|assumption)
  (first|(go_at_call 188;refine HC.out.mono ?_;rintro e w2 ⟨rfl,hR⟩;have hq:w2.cell? ⟨p,0,none⟩=some (.pointer (some ⟨S.soc,0,none⟩))∧w2.cell? ⟨p,1,none⟩=some (.int .i64 c):=⟨Blk.cell (hRP _ _ hR HS1.out HPd.out) 0,Blk.cell (hRP _ _ hR HS1.out HPd.out) 1⟩))
 have HR:=Lib.hid hR;clear hR
 go_wp2_with fail
 go_ret
 exact ⟨rfl,w1.drew,w2,HB1.out.drew,HS1.out,HR.out,Below.refl _ _⟩
theorem PortAt.soc {w w':World} {S:SocL} {p c n W most:Nat} {vs:Nat→Value} {m m':Nat→Nat} {q q':Nat→List (Nat × Nat)} {g g':Gates.Gt} (h:PortAt w S p c) (hs:SocAt w S n W most vs m q g) (hT:SocTo w S n W most vs m' q' g' w'):PortAt w' S p c:=by
 obtain ⟨vs',_,hK,_⟩:=hT
 refine Blk.keep h hK ?_
 obtain ⟨k,hl,_⟩:=hs.locks
 rintro (e|e|⟨d,hd,e|e|e⟩|e|⟨i,hi,e|e⟩)
 ·exact Blk.ne (cs':=k.cells) h hl (by decide) e
 ·exact Blk.ne (cs':=g.cells) (ty':=156) h hs.gate (by decide) e
 ·exact Blk.ne h hs.bus.ram.row (by decide) e
 ·exact Blk.ne h (hs.bus.buf d hd).blk (by decide) e
 ·exact (hs.bus.buf d hd).row.ne h (by decide) e
 ·obtain ⟨cs,hall,_⟩:=hs.box.all
  exact Blk.ne h hall (by decide) e
 ·obtain ⟨f,hh,hL⟩:=hs.box.lane i hi
  exact Blk.ne h hL.blk (by decide) e
 ·obtain ⟨f,hh,hL⟩:=hs.box.lane i hi
  obtain ⟨xs,hx,_⟩:=hL.row
  exact Blk.ne h hx (by decide) e
section
variable (S:SocL) (n W most:Nat) (vs:Nat→Value) (m:Nat→Nat) (q:Nat→List (Nat × Nat)) (g:Gates.Gt) (p c:Nat) (hc:c<n) (hu:upAt g c)
include hc hu
set_option maxRecDepth 100000 in
theorem pLoad_any (a:Nat) (ha:a<W) (w:World) (hp:PortAt w S p c) (h:SocAt w S n W most vs m q g):
  Calls Tryz.prog 183 #[.pointer (some ⟨p,0,none⟩), .int .i64 a] w fun e w'=>e= .returned (.int .i64 (seen m (q c) a))∧Below w.heap.size w w':=by
 have HC:=Lib.hid (read_of S n W most vs m q g p c 1 0 a a (seen m (q c) a) (enc_ram n W a h.n1 h.bus.n8 h.W1 h.bus.ram.most ha) (fun w w'=>Below w.heap.size w w') (fun w w' hb _ hp=>hp.fresh hb) (fun w h=>socRead_ram S n W most vs m q g c hc hu a ha w h) w hp h)
 clear hp h
 go_enter Tryz.func183,Tryz.ntmps183
 go_wp2_with fail
 refine HC.out.mono ?_
 rintro e w3 ⟨rfl,w1,w2,h1,h2,h3,h4⟩
 have HB:=Lib.hid (show Below w.heap.size w w3 from (h1.trans (h3.mono h1.size)).trans (h4.mono (Nat.le_trans h1.size h3.size)))
 clear h1 h2 h3 h4
 go_wp2_with fail
 go_ret
 exact ⟨rfl,HB.out⟩
set_option maxRecDepth 100000 in
theorem pEpoch_any (d:Nat) (hd:d<n) (w:World) (hp:PortAt w S p c) (h:SocAt w S n W most vs m q g):
  Calls Tryz.prog 180 #[.pointer (some ⟨p,0,none⟩), .int .i64 d] w fun e w'=>e= .returned (.int .i64 (g.eps.getD d 0))∧SocTo w S n W most vs (applyAll m (q c)) (upd q c []) g w':=by
 have HC:=Lib.hid (read_of S n W most vs m q g p c 4 d 0 (66048+d) (g.eps.getD d 0) (enc_gate n W d h.n1 h.bus.n8 h.W1 h.bus.ram.most hd) (fun w w'=>SocTo w S n W most vs (applyAll m (q c)) (upd q c []) g w') (fun w w' hT hs hp=>hp.soc hs hT) (fun w h=>socRead_gate S n W most vs m q g c hc hu d hd w h) w hp h)
 generalize g.eps.getD d 0=x at *
 clear hp h
 go_enter Tryz.func180,Tryz.ntmps180
 go_wp2_with fail
 refine HC.out.mono ?_
 rintro e w3 ⟨rfl,w1,w2,h1,h2,h3,h4⟩
 have HB:=Lib.hid ((SocTo.from_ h1 h3).fresh h4)
 clear h1 h2 h3 h4
 go_wp2_with fail
 go_ret
 exact ⟨rfl,HB.out⟩
set_option maxRecDepth 100000 in
theorem pFence_any (w:World) (hp:PortAt w S p c) (h:SocAt w S n W most vs m q g):
  Calls Tryz.prog 181 #[.pointer (some ⟨p,0,none⟩)] w fun e w'=>e= .returned (.tuple #[])∧SocTo w S n W most vs (applyAll m (q c)) (upd q c []) g w':=by
 have c0:=Blk.cell hp 0
 have c1:=Blk.cell hp 1
 simp only [List.getElem?_cons_zero,List.getElem?_cons_succ] at c0 c1
 have hb:=(Below.refl w.heap.size w).drew
 have HC:=Lib.hid (socFence_up S n W most vs m q g c hc hu _ (h.fresh hb))
 have c0d:w.drew.cell? ⟨p,0,none⟩=some (.pointer (some ⟨S.soc,0,none⟩)):=c0
 have c1d:w.drew.cell? ⟨p,1,none⟩=some (.int .i64 c):=c1
 clear hp h
 go_enter Tryz.func181,Tryz.ntmps181
 go_wp2_with fail
 refine wp_region_still_tail 8 (by kernel_rfl) (by kernel_rfl) ?_
 simp only [List.take_succ_cons,List.take_zero,List.drop_succ_cons,List.drop_zero]
 change wpStill _ _ w.drew _ _ _
 repeat still_step
 refine wpStill_nil ?_
 change wpList _ _ _ _ _ w.drew
 go_wp2_with fail
 refine HC.out.mono ?_
 rintro e w3 ⟨⟨y,rfl⟩,hT⟩
 have HT:=Lib.hid (SocTo.from_ hb hT);clear hT
 go_wp2_with fail
 go_end0
 exact ⟨rfl,HT.out⟩
set_option maxRecDepth 100000 in
theorem pStore_any (a x:Nat) (ha:a<W) (hx:x<65536) (w:World) (hp:PortAt w S p c) (h:SocAt w S n W most vs m q g):
  Calls Tryz.prog 184 #[.pointer (some ⟨p,0,none⟩), .int .i64 a, .int .i64 x] w fun e w'=>e= .returned (.tuple #[])∧SocTo w S n W most vs (stM most m (q c)) (upd q c (stQ most (q c) (a,x))) g w':=by
 have HS:=Lib.hid (spot_of S n W most vs m q g p c 1 0 a a (enc_ram n W a h.n1 h.bus.n8 h.W1 h.bus.ram.most ha) w hp h)
 have H:=Lib.hid (And.intro hp h);clear hp h
 go_enter Tryz.func184,Tryz.ntmps184
 go_wp2_with fail
 refine HS.out.mono ?_
 rintro e w1 ⟨rfl,hB1⟩
 have hp1:=H.out.1.fresh hB1
 have c0d:w1.drew.cell? ⟨p,0,none⟩=some (.pointer (some ⟨S.soc,0,none⟩)):=Blk.cell hp1 0
 have c1d:w1.drew.cell? ⟨p,1,none⟩=some (.int .i64 c):=Blk.cell hp1 1
 have hb:=hB1.drew
 have HC:=Lib.hid (socWrite_ram S n W most vs m q g c hc hu a x ha hx _ (H.out.2.fresh hb))
 clear hp1
 go_wp2_with fail
 refine wp_region_still_tail 10 (by kernel_rfl) (by kernel_rfl) ?_
 simp only [List.take_succ_cons,List.take_zero,List.drop_succ_cons,List.drop_zero]
 change wpStill _ _ w1.drew _ _ _
 repeat still_step
 refine wpStill_nil ?_
 change wpList _ _ _ _ _ w1.drew
 go_wp2_with fail
 refine HC.out.mono ?_
 rintro e w3 ⟨rfl,hT⟩
 have HT:=Lib.hid (SocTo.from_ hb hT);clear hT
 go_wp2_with fail
 go_end0
 exact ⟨rfl,HT.out⟩
set_option maxRecDepth 100000 in
theorem pKick_any (d:Nat) (hd:d<n) (w:World) (hp:PortAt w S p c) (h:SocAt w S n W most vs m q g):
  Calls Tryz.prog 182 #[.pointer (some ⟨p,0,none⟩), .int .i64 d] w fun e w'=>e= .returned (.tuple #[])∧SocTo w S n W most vs (applyAll m (q c)) (upd q c []) g w':=by
 have HS:=Lib.hid (spot_of S n W most vs m q g p c 2 d 2 (65538+16*d) (enc_mail n W d h.n1 h.bus.n8 h.W1 h.bus.ram.most hd) w hp h)
 have H:=Lib.hid (And.intro hp h);clear hp h
 go_enter Tryz.func182,Tryz.ntmps182
 go_wp2_with fail
 refine HS.out.mono ?_
 rintro e w1 ⟨rfl,hB1⟩
 have hp1:=H.out.1.fresh hB1
 have c0d:w1.drew.cell? ⟨p,0,none⟩=some (.pointer (some ⟨S.soc,0,none⟩)):=Blk.cell hp1 0
 have c1d:w1.drew.cell? ⟨p,1,none⟩=some (.int .i64 c):=Blk.cell hp1 1
 have hb:=hB1.drew
 have HC:=Lib.hid (socWrite_mail S n W most vs m q g c hc hu d hd _ (H.out.2.fresh hb))
 clear hp1
 go_wp2_with fail
 refine wp_region_still_tail 13 (by kernel_rfl) (by kernel_rfl) ?_
 simp only [List.take_succ_cons,List.take_zero,List.drop_succ_cons,List.drop_zero]
 change wpStill _ _ w1.drew _ _ _
 repeat still_step
 refine wpStill_nil ?_
 change wpList _ _ _ _ _ w1.drew
 go_wp2_with fail
 refine HC.out.mono ?_
 rintro e w3 ⟨⟨r,rfl⟩,hT⟩
 have HT:=Lib.hid (SocTo.from_ hb hT);clear hT
 go_wp2_with fail
 go_end0
 exact ⟨rfl,HT.out⟩
end
theorem both_yes (w:World):Calls Tryz.prog 167 #[.bool true] w fun e w'=>e= .returned (.int .i64 1)∧w=w':=by
 go_enter Tryz.func167,Tryz.ntmps167
 go_wp2_with fail
 go_ret
 exact ⟨rfl,rfl⟩
def Ahead (w:World):Prop:=w.cell? ⟨0,5,none⟩=some (.int .i64 0)∧w.cell? ⟨0,6,none⟩=some (.int .i64 1)∧w.cell? ⟨0,7,none⟩=some (.int .i64 2)∧w.cell? ⟨0,8,none⟩=some (.int .i64 3)
theorem Ahead.keep {w w':World} {F:Nat→Prop} (h:Ahead w) (hk:Keep F w w') (h0: ¬F 0):Ahead w':=by
 have hlt:0<w.heap.size:=by
  have:=World.block_lt_of_cell? w _ h.1
  exact this
 exact ⟨(hk.cell (p:=⟨0,5,none⟩) hlt h0).trans h.1,(hk.cell (p:=⟨0,6,none⟩) hlt h0).trans h.2.1,(hk.cell (p:=⟨0,7,none⟩) hlt h0).trans h.2.2.1,(hk.cell (p:=⟨0,8,none⟩) hlt h0).trans h.2.2.2⟩
theorem Ahead.fresh {w w':World} (h:Ahead w) (hb:Below w.heap.size w w'):Ahead w':=h.keep (Keep.ofFresh hb (B:=0) (F:=fun _=>False)) (fun q=>q)
set_option maxRecDepth 100000 in
theorem plotAt_one (base ring:Nat) (f:Int) (hf0:1≤f) (hf:f<5) (hb:base<65536) (w:World):
  Calls Tryz.prog 156 #[.agg #[.int .i64 base, .int .i64 ring], .int .i64 f, .int .i64 0, .int .i64 0] w fun e w'=>e= .returned (.tuple #[.int .i64 (base+f-1), .bool true])∧Below w.heap.size w w':=by
 have hb1:Below w.heap.size w (w.alloc (.cells #[.int .i64 base, .int .i64 ring] 106)):=(Below.refl _ w).alloc (Nat.le_refl _) _
 have t1:=(Blk.new w 106 [.int .i64 base, .int .i64 ring]).cell 0
 simp only [List.getElem?_cons_zero] at t1
 have w1:IntKind.i64.wrap ((base:Int)+f)=(base:Int)+f:=by rw [IntKind.wrap_i64];omega
 have w2:IntKind.i64.wrap ((base:Int)+f-1)=(base:Int)+f-1:=by rw [IntKind.wrap_i64];omega
 have e8:(f == 8)=false:=by rw [beq_eq_false_iff_ne];omega
 have HB:=Lib.hid hb1;clear hb1
 go_enter Tryz.func156,Tryz.ntmps156
 go_wp2_with fail
 go_region_held3 (fun u=>u.cell? ⟨w.heap.size,0,none⟩=some (.int .i64 base))
  (first|exact t1)
  (first|(go_at_call 167;refine (both_yes _).mono ?_;rintro e w' ⟨rfl,rfl⟩))
 go_wp2_with fail
 go_ret2
 exact ⟨rfl,HB.out.drew⟩
set_option maxRecDepth 100000 in
theorem plotAt_5 (base ring s:Nat) (hs:s<ring) (hr:ring≤64) (hb:base<65536) (w:World) (hA:Ahead w):
  Calls Tryz.prog 156 #[.agg #[.int .i64 base, .int .i64 ring], .int .i64 5, .int .i64 s, .int .i64 0] w fun e w'=>e= .returned (.tuple #[.int .i64 (base+4+0*ring+1*s+0), .bool true])∧Below w.heap.size w w':=by
 have hb1:Below w.heap.size w (w.alloc (.cells #[.int .i64 base, .int .i64 ring] 106)):=(Below.refl _ w).alloc (Nat.le_refl _) _
 have hA1:=hA.fresh hb1
 have g0:=hA1.1
 have t0:=(Blk.new w 106 [.int .i64 base, .int .i64 ring]).cell 0
 have t1:=(Blk.new w 106 [.int .i64 base, .int .i64 ring]).cell 1
 simp only [List.getElem?_cons_zero,List.getElem?_cons_succ] at t0 t1
 have e1:decide ((s:Int)<0)=false:=by simp
 have e2:decide (ring≤s)=false:=by simp;omega
 have HB:=Lib.hid hb1;clear hb1 hA hA1
 go_enter Tryz.func156,Tryz.ntmps156
 go_wp2_with fail
 go_region
 go_wp2_with fail
 go_ret2
 exact ⟨by simp [IntKind.wrap_i64],HB.out.drew⟩
set_option maxRecDepth 100000 in
theorem plotAt_6 (base ring s:Nat) (hs:s<ring) (hr:ring≤64) (hb:base<65536) (w:World) (hA:Ahead w):
  Calls Tryz.prog 156 #[.agg #[.int .i64 base, .int .i64 ring], .int .i64 6, .int .i64 s, .int .i64 0] w fun e w'=>e= .returned (.tuple #[.int .i64 (base+4+1*ring+1*s+0), .bool true])∧Below w.heap.size w w':=by
 have hb1:Below w.heap.size w (w.alloc (.cells #[.int .i64 base, .int .i64 ring] 106)):=(Below.refl _ w).alloc (Nat.le_refl _) _
 have hA1:=hA.fresh hb1
 have g0:=hA1.2.1
 have t0:=(Blk.new w 106 [.int .i64 base, .int .i64 ring]).cell 0
 have t1:=(Blk.new w 106 [.int .i64 base, .int .i64 ring]).cell 1
 simp only [List.getElem?_cons_zero,List.getElem?_cons_succ] at t0 t1
 have e1:decide ((s:Int)<0)=false:=by simp
 have e2:decide (ring≤s)=false:=by simp;omega
 have HB:=Lib.hid hb1;clear hb1 hA hA1
 go_enter Tryz.func156,Tryz.ntmps156
 go_wp2_with fail
 go_region
 go_wp2_with fail
 go_ret2
 exact ⟨by simp [IntKind.wrap_i64],HB.out.drew⟩
set_option maxRecDepth 100000 in
theorem plotAt_7 (base ring s:Nat) (hs:s<ring) (hr:ring≤64) (hb:base<65536) (w:World) (hA:Ahead w):
  Calls Tryz.prog 156 #[.agg #[.int .i64 base, .int .i64 ring], .int .i64 7, .int .i64 s, .int .i64 0] w fun e w'=>e= .returned (.tuple #[.int .i64 (base+4+2*ring+1*s+0), .bool true])∧Below w.heap.size w w':=by
 have hb1:Below w.heap.size w (w.alloc (.cells #[.int .i64 base, .int .i64 ring] 106)):=(Below.refl _ w).alloc (Nat.le_refl _) _
 have hA1:=hA.fresh hb1
 have g0:=hA1.2.2.1
 have t0:=(Blk.new w 106 [.int .i64 base, .int .i64 ring]).cell 0
 have t1:=(Blk.new w 106 [.int .i64 base, .int .i64 ring]).cell 1
 simp only [List.getElem?_cons_zero,List.getElem?_cons_succ] at t0 t1
 have e1:decide ((s:Int)<0)=false:=by simp
 have e2:decide (ring≤s)=false:=by simp;omega
 have HB:=Lib.hid hb1;clear hb1 hA hA1
 go_enter Tryz.func156,Tryz.ntmps156
 go_wp2_with fail
 go_region
 go_wp2_with fail
 go_ret2
 exact ⟨by simp [IntKind.wrap_i64],HB.out.drew⟩
set_option maxRecDepth 100000 in
theorem plotAt_8 (base ring s i:Nat) (hs:s<ring) (hi:i<8) (hr:ring≤64) (hb:base<65536) (w:World) (hA:Ahead w):
  Calls Tryz.prog 156 #[.agg #[.int .i64 base, .int .i64 ring], .int .i64 8, .int .i64 s, .int .i64 i] w fun e w'=>e= .returned (.tuple #[.int .i64 (base+4+3*ring+8*s+i), .bool true])∧Below w.heap.size w w':=by
 have hb1:Below w.heap.size w (w.alloc (.cells #[.int .i64 base, .int .i64 ring] 106)):=(Below.refl _ w).alloc (Nat.le_refl _) _
 have hA1:=hA.fresh hb1
 have g0:=hA1.2.2.2
 have t0:=(Blk.new w 106 [.int .i64 base, .int .i64 ring]).cell 0
 have t1:=(Blk.new w 106 [.int .i64 base, .int .i64 ring]).cell 1
 simp only [List.getElem?_cons_zero,List.getElem?_cons_succ] at t0 t1
 have e1:decide ((s:Int)<0)=false:=by simp
 have e2:decide (ring≤s)=false:=by simp;omega
 have e3:decide ((i:Int)<0)=false:=by simp
 have e4:decide (8≤(i:Int))=false:=by simp;omega
 have HB:=Lib.hid hb1;clear hb1 hA hA1
 go_enter Tryz.func156,Tryz.ntmps156
 go_wp2_with fail
 go_region
 go_wp2_with fail
 go_ret2
 exact ⟨by simp [IntKind.wrap_i64],HB.out.drew⟩
def ints (xs:List Int):List Value:=xs.map (Value.int .i64)
theorem ints_get (xs:List Int) (j:Nat) (h:j<xs.length):(ints xs)[j]? = some (.int .i64 (xs.getD j 0)):=by
 simp [ints,h]
def ReadI (w:World) (v:Value) (xs:List Int):Prop:=
 (xs= []∧∃A c,v= .slice A 0 c)∨∃g off c,v= .slice (some ⟨g,off,none⟩) xs.length c∧g<w.heap.size∧xs.length≤c∧∀j,j<xs.length→w.cell? ⟨g,off+j,none⟩=some (.int .i64 (xs.getD j 0))
def RowI (w:World) (v:Value) (xs:List Int):Prop:=Row w 3 1 v xs.length (ints xs)
theorem RowI.read {w:World} {v:Value} {xs:List Int} (h:RowI w v xs):ReadI w v xs:=by
 rcases Nat.eq_zero_or_pos xs.length with h0|h0
 ·have hx:=List.eq_nil_of_length_eq_zero h0
  subst hx
  obtain ⟨A,c,hv,_⟩:=h.slice
  exact .inl ⟨rfl,A,c,hv⟩
 ·obtain ⟨g,off,c,hv,hc,hcm,hcell⟩:=Row.cells h h0
  refine .inr ⟨g,off,c,hv,Row.lt h g (by rw [hv];rfl),hc,fun j hj=> ?_⟩
  rw [(hcell j (by omega)).1,ints_get xs j hj]
theorem ReadI.fresh {w w':World} {v:Value} {xs:List Int} (h:ReadI w v xs) (hb:Below w.heap.size w w'):ReadI w' v xs:=by
 rcases h with h|⟨g,off,c,hv,hg,hc,hcell⟩
 ·exact .inl h
 ·exact .inr ⟨g,off,c,hv,Nat.lt_of_lt_of_le hg hb.size,hc,fun j hj=>(hb.cell (p:=⟨g,off+j,none⟩) hg).trans (hcell j hj)⟩
theorem ReadI.slice {w:World} {v:Value} {xs:List Int} (h:ReadI w v xs):∃A c,v= .slice A xs.length c:=by
 rcases h with ⟨rfl,A,c,hv⟩|⟨g,off,c,hv,_⟩
 ·exact ⟨A,c,hv⟩
 ·exact ⟨_,c,hv⟩
theorem ReadI.at_ {w:World} {v:Value} {xs:List Int} (h:ReadI w v xs) (j:Nat) (hj:j<xs.length):∃g off c,v= .slice (some ⟨g,off,none⟩) xs.length c∧xs.length≤c∧w.cell? ⟨g,off+j,none⟩=some (.int .i64 (xs.getD j 0)):=by
 rcases h with ⟨rfl,A,c,hv⟩|⟨g,off,c,hv,hg,hc,hcell⟩
 ·simp at hj
 ·exact ⟨g,off,c,hv,hc,hcell j hj⟩
def idx (xs:List Int) (x:Int):Int:=((xs.findIdx? (· == x)).map Int.ofNat).getD (-1)
theorem idx_some {xs:List Int} {x:Int} {k:Nat} (hk:k<xs.length) (hx:xs.getD k 0=x) (hb:∀i,i<k→xs.getD i 0≠x):idx xs x=k:=by
 have:xs.findIdx? (· == x)=some k:=by
  rw [List.findIdx?_eq_some_iff_getElem]
  have e:xs.getD k 0=xs[k]:=by simp [hk]
  refine ⟨hk,by rw [e] at hx;simpa using hx,fun j hj=> ?_⟩
  have:=hb j hj
  simpa [show j<xs.length by omega] using this
 unfold idx
 rw [this];rfl
theorem idx_none {xs:List Int} {x:Int} (hb:∀i,i<xs.length→xs.getD i 0≠x):idx xs x= -1:=by
 have:xs.findIdx? (· == x)=none:=by
  rw [List.findIdx?_eq_none_iff]
  intro y hy
  obtain ⟨i,hi,rfl⟩:=List.getElem_of_mem hy
  have:=hb i hi
  simpa [hi] using this
 unfold idx
 rw [this];rfl
theorem index_any (v:Value) (xs:List Int) (x:Int) (hlen:xs.length≤1000) (w:World) (h:ReadI w v xs):
  Calls Tryz.prog 166 #[v, .int .i64 x] w fun e w'=>e= .returned (.int .i64 (idx xs x))∧w=w':=by
 obtain ⟨A,cc,hv⟩:=h.slice
 subst hv
 have H:=Lib.hid h;clear h
 go_enter Tryz.func166,Tryz.ntmps166
 go_wp2_with fail
 go_loopw [8] (fun j u=>∃k:Nat,k≤xs.length∧j= .int .i64 k∧(∀i,i<k→xs.getD i 0≠x)∧u=w)
  (fun j _=>xs.length-(intOf j).toNat)
 case atStart=>exact ⟨0,by omega,rfl,fun i hi=>by omega,rfl⟩
 case round=>
  obtain ⟨k,hk,rfl,hb,rfl⟩:=hrel
  have HBB:=Lib.hid hb;clear hb
  by_cases hkl:k<xs.length
  ·obtain ⟨g,off,c,he,hc,hcell⟩:=H.out.at_ k hkl
   injection he with he1 he2 he3
   subst he1
   have hk0:(0:Int)≤(k:Int):=by omega
   have hk1:(k:Int)<(xs.length:Int):=by omega
   by_cases hx:xs.getD k 0=x
   ·have hI:=idx_some hkl hx HBB.out
    rw [hx] at hcell
    have HI:=Lib.hid hI;clear hI hx
    go_wp2_with fail
    go_ret
    exact ⟨by rw [HI.out];rfl,rfl⟩
   ·have e1:(x == xs.getD k 0)=false:=by rw [beq_eq_false_iff_ne];exact fun e=>hx e.symm
    have HX:=Lib.hid hx
    clear hx
    generalize hy:xs.getD k 0=y at *
    have HY:=Lib.hid hy;clear hy
    go_wp2_with fail
    go_roundw
    case rel=>exact ⟨k+1,by omega,by go_num,fun i hi=>by
     by_cases e:i=k
     ·rw [e,HY.out];exact HX.out
     ·exact HBB.out i (by omega),by first|trivial|rfl⟩
    case measure=>simp [intOf];omega
  ·have hkn:k=xs.length:=by omega
   have hI:=idx_none (xs:=xs) (x:=x) (fun i hi=>HBB.out i (by omega))
   have HI:=Lib.hid hI;clear hI
   subst hkn
   go_wp2_with fail
   go_ret
   exact ⟨by rw [HI.out];rfl,rfl⟩
theorem contains_any (v:Value) (xs:List Int) (x:Int) (hlen:xs.length≤1000) (w:World) (h:ReadI w v xs):
  Calls Tryz.prog 174 #[v, .int .i64 x] w fun e w'=>e= .returned (.bool (decide (0≤idx xs x)))∧w=w':=by
 have hC:=index_any v xs x hlen w h
 generalize idx xs x=y at *
 have HC:=Lib.hid hC;clear hC h
 go_enter Tryz.func174,Tryz.ntmps174
 go_wp2_with fail
 refine HC.out.mono ?_
 rintro e w' ⟨rfl,rfl⟩
 go_wp2_with fail
 go_ret
 exact ⟨rfl,rfl⟩
theorem info3:(Tryz.prog.info? 3).map (fun i=>(i.zero,i.size,i.bytes))=some (some (.int .i64 0),1,8):=by kernel_rfl
theorem sl_some (ad:Addr) (n c:Nat) (w:World):(binOp .eql 31 (.slice (some ad) n c) (.slice none 0 0)).run Tryz.prog w= .ok (.bool false) w:=by kernel_rfl
theorem sl_none (n c:Nat) (w:World):(binOp .eql 31 (.slice none n c) (.slice none 0 0)).run Tryz.prog w= .ok (.bool true) w:=by kernel_rfl
theorem under31:Tryz.prog.underlying 31=some (.slice 3):=by kernel_rfl
set_option maxRecDepth 100000 in
theorem clone_some (g off c:Nat) (xs:List Int) (hlen:xs.length≤1000) (w:World) (hg:0<xs.length→g<w.heap.size) (hcell:∀j,j<xs.length→w.cell? ⟨g,off+j,none⟩=some (.int .i64 (xs.getD j 0))) (ad:Addr) (had:0<xs.length→ad=⟨g,off,none⟩):
  Calls Tryz.prog 30 #[.slice (some ad) xs.length c] w fun e w'=>∃v',e= .returned v'∧RowI w' v' xs∧(∀k,v'.ownBlock=some k→w.heap.size≤k)∧Below w.heap.size w w':=by
 have hs:=sl_some
 have hb1:Below w.heap.size w (w.alloc (.cells #[] 3)):=(Below.refl _ w).alloc (Nat.le_refl _) _
 have hrow:Row (w.alloc (.cells #[] 3)) 3 1 (.slice (some ⟨w.heap.size,0,none⟩) 0 0) 0 []:=Row.empty (cur:= []) (Blk.new w 3 []) (by simp) (by unfold maxLen;omega)
 have hnews:∀j u,(ints xs)[j]? = some u→(w.alloc (.cells #[] 3)).cell? (ad.add j)=some u:=by
  intro j u hu
  have hj:j<xs.length:=by
   have:=(List.getElem?_eq_some_iff.1 hu).1
   simpa [ints] using this
  rw [had (by omega),add_lit]
  have:((⟨g,off+j,none⟩:Addr)).block<w.heap.size:=hg (by omega)
  rw [hb1.cell this,hcell j hj, ←ints_get xs j hj]
  exact hu
 have HB:=Lib.hid (And.intro hb1 (And.intro hrow hnews));clear hb1 hrow hnews hcell had
 go_enter Tryz.func30,Tryz.ntmps30
 go_wp2_with (at_builtin;refine app_list rfl _ _ 31 3 (.int .i64 0) 1 8 rfl under31 info3 rfl (by decide) (.slice (some ⟨w.heap.size,0,none⟩) 0 0) 0 [] HB.out.2.1 ad xs.length c (ints xs) rfl rfl (by simp [ints]) HB.out.2.2 (by intro u hu;obtain ⟨y,_,rfl⟩:=List.mem_map.1 hu;rfl) (by unfold maxLen;omega) (by omega) ?_;intro v1 w1 hR1 hg1 hat1)
 go_ret
 refine ⟨v1,rfl,by simpa [RowI] using hR1,fun k hk=> ?_,HB.out.1.grown hg1 HB.out.1.size (fun k hk=>by simp [Value.ownBlock] at hk;omega)⟩
 rcases hat1 with e|⟨b,e,hb⟩
 ·rw [e] at hk;simp [Value.ownBlock] at hk;omega
 ·rw [e] at hk;injection hk with hk;simp at hb;omega
theorem clone_any (v:Value) (xs:List Int) (hlen:xs.length≤1000) (w:World) (h:ReadI w v xs):
  Calls Tryz.prog 30 #[v] w fun e w'=>∃v',e= .returned v'∧RowI w' v' xs∧(∀k,v'.ownBlock=some k→w.heap.size≤k)∧Below w.heap.size w w':=by
 rcases h with ⟨rfl,A,c,rfl⟩|⟨g,off,c,rfl,hg,hc,hcell⟩
 ·cases A with
  | none=>
   have hs:=sl_none
   go_enter Tryz.func30,Tryz.ntmps30
   go_wp2_with fail
   go_ret
   exact ⟨_,rfl,Row.nil _ _ _,fun k hk=>by simp [Value.ownBlock] at hk,Below.refl _ _⟩
  | some ad=>
   exact clone_some 0 0 c [] hlen w (fun h=>by simp at h) (fun j hj=>by simp at hj) ad (fun h=>by simp at h)
 ·exact clone_some g off c xs hlen w (fun _=>hg) hcell _ (fun _=>rfl)
theorem run_clear1 (ty:TypeId) (g o c:Nat) (w:World) (hc:(w.cell? ⟨g,o,none⟩).isSome=true) (hf:w.frozen? ⟨g,o,none⟩=false):
  (Builtin.clear_ #[31] ty #[.slice (some ⟨g,o,none⟩) 1 c]).run Tryz.prog w= .ok (.tuple #[]) (w.setCell ⟨g,o,none⟩ (.int .i64 0)):=by
 obtain ⟨i0,hi,hzz⟩:=Option.map_eq_some_iff.1 info3
 simp only [Prod.mk.injEq] at hzz
 have hz:(zeroValue 3).run Tryz.prog w= .ok (.int .i64 0) w:=by simp [zeroValue,typeInfo,hi,hzz.1]
 have hst:=run_storeCells_cells (P:=Tryz.prog) g o [.int .i64 0] 0 w (fun j hj=>by
  have:j=0:=by simp at hj;omega
  subst this;exact hc) (fun j hj=>by
  have:j=0:=by simp at hj;omega
  subst this;exact hf) (by intro u hu;rw [List.mem_singleton.1 hu];rfl)
 have hr1:Array.range 1= #[0]:=by decide
 have hzc:Builtin.zeroCells (Value.int .i64 0).cells 1= #[.int .i64 0]:=by simp [Builtin.zeroCells,Value.cells,hr1]
 simp [Builtin.clear_,run_underlying under31,hz,hzc,hst,World.setCells]
section
variable {ops:Array Oper} {rest:List Oper} {o:Oper} {a:Act} {Q':Exit→Act→World→Prop} {Kc:Act→World→Prop} {E:Prop}
theorem room_step {W:World} (hw:Region.wanted o (yielded ops a.tmps)=true) (s x:Operand) (ho:o.op= .call { callee:= .builtin .append,args:= #[s,x],argTypes:= #[31,31] })
  (g off n cap:Nat) (ad:Addr) (m c:Nat) (news:List Value) (hs:a.eval s= .slice (some ⟨g,off,none⟩) n cap) (hx:a.eval x= .slice (some ad) m c) (hl:news.length=m) (hnews:∀j u,news[j]? = some u→W.cell? (ad.add j)=some u) (h1:∀u∈news,u.oneCell'=true)
  (hroom:n+m≤cap) (hc:∀j,j<m→(W.cell? ⟨g,off+n+j,none⟩).isSome=true) (hf:∀j,j<m→W.frozen? ⟨g,off+n+j,none⟩=false)
  (k:Kc (a.put o.dst (.slice (some ⟨g,off,none⟩) (n+m) cap)) (W.setCells g (off+n) news)):
  if Region.wanted o (yielded ops a.tmps)=true then Oper.wp Tryz.prog o a W Kc Q' else E:=by
 obtain ⟨i0,hi,hzz⟩:=Option.map_eq_some_iff.1 info3
 simp only [Prod.mk.injEq] at hzz
 obtain ⟨hz0,hz1,hz2⟩:=hzz
 have hr:=run_append_room_cells (P:=Tryz.prog) (w:=W) 31 o.type 3 i0 under31 hi g off n cap ad m c news (by rw [hz1,hl,Nat.mul_one]) hnews h1 hroom (fun j hj=>by rw [hz1,Nat.mul_one];exact hc j (by omega)) (fun j hj=>by rw [hz1,Nat.mul_one];exact hf j (by omega))
 rw [hz1,Nat.mul_one] at hr
 rw [if_pos hw]
 unfold Oper.wp execOp
 simp only [ho,resolve,invoke,builtin,Sem.run_bind,Sem.run_pure,Result.andThen_ok,List.map_toArray,List.map_cons,List.map_nil,hs,hx,hr]
 exact k
end
theorem del_list (cur xs:List Value) (off i:Nat) (hx:(cur.drop off).take xs.length=xs) (hi:i<xs.length) (hl:off+xs.length≤cur.length) (z:Value):
  (((cur.take (off+i)++xs.drop (i+1)++cur.drop (off+i+(xs.drop (i+1)).length)).set (off+(i+(xs.length-(i+1)))) z).drop off).take (i+(xs.length-(i+1)))=xs.eraseIdx i:=by
 apply List.ext_getElem?
 intro j
 have hget:∀q,q<xs.length→cur[off+q]? = xs[q]? := by
  intro q hq
  have:xs[q]? = ((cur.drop off).take xs.length)[q]? := by rw [hx]
  rw [this,List.getElem?_take,if_pos hq,List.getElem?_drop]
 rw [List.getElem?_take,List.getElem?_eraseIdx]
 split
 ·rename_i hj
  rw [List.getElem?_drop,List.getElem?_set,if_neg (by omega)]
  by_cases hji:j<i
  ·rw [if_pos hji,List.append_assoc,List.getElem?_append_left (by rw [List.length_take];omega),List.getElem?_take,if_pos (by omega),hget j (by omega)]
  ·rw [if_neg hji,List.append_assoc,List.getElem?_append_right (by rw [List.length_take];omega),List.getElem?_append_left (by rw [List.length_take,List.length_drop];omega),List.getElem?_drop,List.length_take,Nat.min_eq_left (by omega)]
   congr 1;omega
 ·rename_i hj
  rw [if_neg (by omega),List.getElem?_eq_none (by omega)]
set_option maxRecDepth 100000 in
theorem delete_any (v:Value) (xs:List Int) (i:Nat) (hi:i<xs.length) (hlen:xs.length≤1000) (w:World) (h:RowI w v xs):
  Calls Tryz.prog 164 #[v, .int .i64 i, .int .i64 (i+1)] w fun e w'=>∃v',e= .returned v'∧RowI w' v' (xs.eraseIdx i)∧v'.ownBlock=v.ownBlock∧Keep (fun k=>v.ownBlock=some k) w w':=by
 rcases h.2 with ⟨rfl,h0⟩|⟨g,off,cap,cur,rfl,hg,hc,hm,hl,ht⟩
 ·omega
 ·obtain ⟨i0,hi0,hzz⟩:=Option.map_eq_some_iff.1 info3
  have hsz:i0.size=1:=by simp only [Prod.mk.injEq] at hzz;exact hzz.2.1
  have hs3:=Row.run_slice3 (P:=Tryz.prog) 31 3 under31 hi0 (some ⟨g,off,none⟩) xs.length cap i (i+1) xs.length (by omega) (by omega) (by omega)
  have hhi:=Row.run_slice_hi (P:=Tryz.prog) 31 3 under31 hi0 (some ⟨g,off,none⟩) xs.length cap i (by omega)
  have hlo:=Row.run_slice_lo (P:=Tryz.prog) 31 3 under31 hi0 (some ⟨g,off,none⟩) xs.length cap (i+1) (by omega)
  rw [hsz] at hs3 hhi hlo
  have e1:(if cap=0 then some (⟨g,off,none⟩:Addr) else (some (⟨g,off,none⟩:Addr)).map (·.add (0*1)))=some ⟨g,off,none⟩:=by
   split
   ·rfl
   ·rw [Option.map_some,add_lit];rfl
  rw [e1] at hhi
  generalize hA3:(if xs.length=i then some (⟨g,off,none⟩:Addr) else (some (⟨g,off,none⟩:Addr)).map (·.add (i*1)))=A3 at *
  have hA2:∃ad:Addr,(if cap=i+1 then some (⟨g,off,none⟩:Addr) else (some (⟨g,off,none⟩:Addr)).map (·.add ((i+1)*1)))=some ad∧(0<xs.length-(i+1)→ad=⟨g,off+(i+1),none⟩):=by
   split
   ·exact ⟨_,rfl,fun h=>by omega⟩
   ·exact ⟨_,by rw [Option.map_some,add_lit,Nat.mul_one],fun _=>rfl⟩
  obtain ⟨ad,hA2,had⟩:=hA2
  rw [hA2] at hlo
  have hb2:((i:Int) == (i:Int)+1)=false:=by rw [beq_eq_false_iff_ne];omega
  push_cast at hs3 hlo
  have hxs:ints xs=(cur.drop off).take xs.length:=by rw [←ht,Nat.mul_one]
  have hcl:off+xs.length≤cur.length:=by omega
  have hil:(ints xs).length=xs.length:=by simp [ints]
  have hnl:((ints xs).drop (i+1)).length=xs.length-(i+1):=by rw [List.length_drop,hil]
  have hnews:∀j u,((ints xs).drop (i+1))[j]? = some u→w.cell? (ad.add j)=some u:=by
   intro j u hu
   have hj:j<xs.length-(i+1):=by
    have:=(List.getElem?_eq_some_iff.1 hu).1
    omega
   rw [had (by omega),add_lit,hg.cell]
   rw [hxs,List.getElem?_drop,List.getElem?_take,if_pos (by omega),List.getElem?_drop] at hu
   rw [←hu];congr 1;omega
  have h1n:∀u∈(ints xs).drop (i+1),u.oneCell'=true:=by
   intro u hu
   obtain ⟨y,_,rfl⟩:=List.mem_map.1 (List.mem_of_mem_drop hu)
   rfl
  have hcs:∀j,j<xs.length-(i+1)→(w.cell? ⟨g,off+i+j,none⟩).isSome=true:=fun j hj=>by rw [hg.cell];simp;omega
  have hfs:∀j,j<xs.length-(i+1)→w.frozen? ⟨g,off+i+j,none⟩=false:=fun j hj=>hg.free _
  have HNN:=Lib.hid (And.intro hnl (And.intro hnews (And.intro h1n (And.intro hcs hfs))))
  have HXS:=Lib.hid hxs
  clear hnews h1n hcs hfs hnl hxs
  go_enter Tryz.func164,Tryz.ntmps164
  go_wp2_with fail
  go_region_held3 (fun u=>True)
   (first|exact trivial)
   (first|(refine room_step rfl _ _ rfl g off i cap ad (xs.length-(i+1)) (cap-(i+1)) ((ints xs).drop (i+1)) rfl rfl HNN.out.1 HNN.out.2.1 HNN.out.2.2.1 (by omega) HNN.out.2.2.2.1 HNN.out.2.2.2.2 ?_))
  have hset:=setCells_blk ((ints xs).drop (i+1)) (off+i) w cur hg (by rw [List.length_drop,hil];omega)
  have hsm:=setCells_same g ((ints xs).drop (i+1)) (off+i) w
  have hfar:=fun k hk=>setCells_far (g:=g) ((ints xs).drop (i+1)) (off+i) (w:=w) k hk
  have hclen:(cur.take (off+i)++(ints xs).drop (i+1)++cur.drop (off+i+((ints xs).drop (i+1)).length)).length=cur.length:=by
   simp only [List.length_append,List.length_take,List.length_drop,hil];omega
  have hsetd:Blk (w.drew.setCells g (off+i) ((ints xs).drop (i+1))) g 3 (cur.take (off+i)++(ints xs).drop (i+1)++cur.drop (off+i+((ints xs).drop (i+1)).length)):=setCells_blk ((ints xs).drop (i+1)) (off+i) w.drew cur hg (by rw [List.length_drop,hil];omega)
  have hkeep:Keep (fun k=>(Value.slice (some ⟨g,off,none⟩) xs.length cap).ownBlock=some k) w (w.drew.setCells g (off+i) ((ints xs).drop (i+1))):=by
   obtain ⟨q1,q2,q3,q4⟩:=setCells_same g ((ints xs).drop (i+1)) (off+i) w.drew
   exact ⟨q1,q2,q3,by rw [q4];exact Nat.le_refl _,fun k hk hn=>setCells_far (g:=g) _ _ k (fun e=>hn (by rw [e];rfl))⟩
  have hfin:=del_list cur (ints xs) off i (by rw [hil];exact HXS.out.symm) (by rw [hil];exact hi) (by rw [hil];exact hcl) (.int .i64 0)
  rw [hil] at hfin
  have hcc:=hsetd.cell (off+(i+(xs.length-(i+1))))
  have hccs:((w.drew.setCells g (off+i) ((ints xs).drop (i+1))).cell? ⟨g,off+(i+(xs.length-(i+1))),none⟩).isSome=true:=by
   rw [hcc];simp only [List.getElem?_eq_getElem (show off+(i+(xs.length-(i+1)))<_ by rw [hclen];omega)];rfl
  have hset2:=hsetd.set (off+(i+(xs.length-(i+1)))) (.int .i64 0)
  have HS:=Lib.hid (And.intro hset2 (And.intro hkeep (And.intro hfin (And.intro hccs (And.intro (hsetd.free (off+(i+(xs.length-(i+1))))) hclen)))))
  clear hset hsm hfar hclen hsetd hkeep hfin hcc hccs hset2
  have h1:xs.length-(i+(xs.length-(i+1)))=1:=by omega
  have H1:=Lib.hid h1;clear h1
  go_wp2_with fail
  rw [H1.out,run_clear1 0 g (off+(i+(xs.length-(i+1)))) _ _ HS.out.2.2.2.1 HS.out.2.2.2.2.1]
  go_wp2_with fail
  go_ret
  obtain ⟨q1,q2,q3,q4,q5,q6⟩:=HS.out
  refine ⟨.slice (some ⟨g,off,none⟩) (i+(xs.length-(i+1))) cap,rfl, ?_,rfl,q2.setCell (p:=⟨g,off+(i+(xs.length-(i+1))),none⟩) (fun _=>rfl) _⟩
  have hel:(xs.eraseIdx i).length=i+(xs.length-(i+1)):=by rw [List.length_eraseIdx,if_pos hi];omega
  have hie:ints (xs.eraseIdx i)=(ints xs).eraseIdx i:=by unfold ints;apply List.ext_getElem?;intro j;simp only [List.getElem?_map,List.getElem?_eraseIdx];split<;>rfl
  unfold RowI
  rw [hel,hie]
  refine ⟨?_, .inr ⟨g,off,cap,_,rfl,q1,by omega,hm, ?_, ?_⟩⟩
  ·rw [List.length_eraseIdx,if_pos (by rw [hil];exact hi),hil];omega
  ·rw [List.length_set,q6];exact hl
  ·rw [Nat.mul_one];exact q3
inductive Tch where
 | ep (d:Nat)
 | ld (a:Nat)
 | st (a x:Nat)
 | kick (d:Nat)
 | fence
structure Sc where
 m:Nat→Nat
 q:Nat→List (Nat × Nat)
 g:Gates.Gt
def Sc.flush (s:Sc) (c:Nat):Sc:= { s with m:=applyAll s.m (s.q c),q:=upd s.q c [] }
def Sc.tch (most c:Nat) (s:Sc):Tch→Sc × Int
 | .ep d=>(s.flush c,s.g.eps.getD d 0)
 | .ld a=>(s,seen s.m (s.q c) a)
 | .st a x=>({ s with m:=stM most s.m (s.q c),q:=upd s.q c (stQ most (s.q c) (a,x)) },0)
 | .kick _=>(s.flush c,0)
 | .fence=>(s.flush c,0)
structure Giv where
 base:Nat
 ring:Nat
 self:Nat
 peer:Nat
 own:Nat
 known:Int
 linked:Bool
 free:List Nat
 out:List Nat
 next:Nat
 tail:Nat
 pc:Nat
 i:Nat
 left:Nat
 d:Nat
 answer:Int
 load:List Nat
namespace Giv
def ep (g:Giv):Int:=((g.own:Int)+g.known)%65536
def tch (g:Giv):Tch:=
 if g.pc=1∨g.pc=15 then .ep g.peer
 else if g.pc=5 then .ld (g.base+1)
 else if g.pc=6 then .ld (g.base+3)
 else if g.pc=7 then .ld (g.base+4+1*g.ring+1*(g.tail%g.ring)+0)
 else if g.pc=14 then .kick g.peer
 else if g.pc=2 then .st (g.base+2) 0
 else if g.pc=3 then .st g.base g.ep.toNat
 else if g.pc=8 then .st (g.base+4+3*g.ring+8*g.d+g.i) (g.load.getD g.i 0)
 else if g.pc=9 then .st (g.base+4+2*g.ring+1*g.d+0) g.load.length
 else if g.pc=10 then .st (g.base+4+0*g.ring+1*(g.next%g.ring)+0) g.d
 else if g.pc=12 then .st (g.base+2) ((g.next+1)%65536)
 else .fence
def first (g:Giv):Giv:= { g with linked:=false,out:= [],next:=0,tail:=0,pc:=0,free:=List.range g.ring }
def words (g:Giv):Giv:= { g with pc:=if g.load.length≤g.i then 9 else 8 }
def corrupt (g:Giv):Giv:= { g with pc:=15,answer:=10 }
def roomy (g:Giv):Giv:=
 let g:= { g with pc:=7,i:=0 }
 if 0<g.left then g
 else match g.free with
  | []=> { g with pc:=15,answer:=5 }
  | d :: r=>words { g with d:=d,free:=r,out:=g.out ++ [d] }
def asked (g:Giv) (w:Int):Giv:=if w≠g.known then { g with known:=w,pc:=2 } else if g.linked then { g with pc:=6 } else { g with pc:=5 }
def back (g:Giv) (k w:Nat):Giv:= { g with out:=g.out.eraseIdx k,free:=g.free ++ [w],tail:=(g.tail+1)%65536,left:=g.left-1 }
def over (g:Giv) (w:Int):Giv × Int:=
 let g:= { g with pc:=0 }
 if w≠g.known then (g,8) else if g.answer=0 then ({ g with next:=(g.next+1)%65536 },g.answer) else (g,g.answer)
def go (g:Giv) (w:Int):Giv × Bool × Int:=
 if g.pc=1 then (g.asked w,false,0)
 else if g.pc=4 then (g.first,true,8)
 else if g.pc=5 then (if w≠g.ep then ({ g with pc:=0 },true,9) else ({ g with linked:=true,pc:=6 },false,0))
 else if g.pc=6 then
  let l:=((w-g.tail)%65536).toNat
  (if g.out.length<l then ({ g with left:=l }.corrupt,false,0) else ({ g with left:=l }.roomy,false,0))
 else if g.pc=7 then
  match g.out.findIdx? (fun (x:Nat)=>(x:Int) == w) with
  | none=>(g.corrupt,false,0)
  | some k=>((g.back k w.toNat).roomy,false,0)
 else if g.pc=8 then ({ g with i:=g.i+1 }.words,false,0)
 else if g.pc=14 then ({ g with pc:=15,answer:=0 },false,0)
 else if g.pc=15 then ((g.over w).1,true,(g.over w).2)
 else ({ g with pc:=g.pc+1 },false,0)
structure Ok (g:Giv) (n W:Nat):Prop where
 r1:1≤g.ring
 r64:g.ring≤64
 room:g.base+4+11*g.ring≤W
 word:W≤65536
 peer:g.peer<n
 own:g.own<65536
 known: -1≤g.known∧g.known<65536
 free:∀x∈g.free,x<g.ring
 out:∀x∈g.out,x<g.ring
 many:g.free.length+g.out.length≤g.ring
 next:g.next<65536
 tail:g.tail<65536
 pc:g.pc≤15
 left:g.left≤65536
 leftp:g.pc=7→0<g.left
 d:8≤g.pc→g.pc≤10→g.d<g.ring
 i:g.i≤8
 word8:g.pc=8→g.i<g.load.length
 len:g.load.length≤8
 load:∀x∈g.load,x<65536
end Giv
structure Tak where
 base:Nat
 ring:Nat
 self:Nat
 peer:Nat
 own:Nat
 known:Int
 linked:Bool
 head:Nat
 used:Nat
 pc:Nat
 d:Nat
 many:Nat
 answer:Int
 back:Bool
 load:List Nat
 got:Int
 tab:Grants.Tb
namespace Tak
def ep (g:Tak):Int:=((g.own:Int)+g.known)%65536
def held (g:Tak):List Int:=Grants.heldR g.tab
def tch (g:Tak):Tch:=
 if g.pc=1∨g.pc=14 then .ep g.peer
 else if g.pc=5 then .ld g.base
 else if g.pc=6 then .ld (g.base+2)
 else if g.pc=7 then .ld (g.base+4+0*g.ring+1*(g.head%g.ring)+0)
 else if g.pc=8 then .ld (g.base+4+2*g.ring+1*g.d+0)
 else if g.pc=9 then .ld (g.base+4+3*g.ring+8*g.d+g.load.length)
 else if g.pc=2 then .st (g.base+3) 0
 else if g.pc=3 then .st (g.base+1) g.ep.toNat
 else if g.pc=10 then .st (g.base+4+1*g.ring+1*(g.used%g.ring)+0) g.d
 else if g.pc=12 then .st (g.base+3) ((g.used+1)%65536)
 else .fence
def first (g:Tak):Tak:= { g with linked:=false,head:=0,used:=0,pc:=0,load:= [],got:=0,tab:=g.tab.none_ }
def begin_ (g:Tak) (b:Bool):Tak:= { g with pc:=1,back:=b,load:= [],got:=0 }
def recv (g:Tak):Tak × Int:=if g.pc≠0 then (g,11) else (g.begin_ false,0)
def release (g:Tak) (h:Int):Tak × Int:=
 if g.pc≠0 then (g,11)
 else if (Grants.dropR g.tab h).2≠0 then ({ g with tab:=(Grants.dropR g.tab h).1 },(Grants.dropR g.tab h).2)
 else ({ ({ g with tab:=(Grants.dropR g.tab h).1 }:Tak).begin_ true with d:=(Grants.slotR g.tab h).1.toNat },0)
def asked (g:Tak) (w:Int):Tak:=if w≠g.known then { g with known:=w,pc:=2 } else if g.linked then (if g.back then { g with pc:=10 } else { g with pc:=6 }) else { g with pc:=5 }
def waiting (g:Tak) (w:Int):Int:=
 if (w-g.head)%65536=0 then 6 else if (g.ring:Int)-g.held.length<(w-g.head)%65536 then 10 else 0
def words (g:Tak):Tak:=if g.load.length<g.many then { g with answer:=0 } else { g with answer:=0,pc:=14 }
def corrupt (g:Tak):Tak:= { g with answer:=10,pc:=14 }
def over (g:Tak) (w:Int):Tak × Int:=
 if w≠g.known then ({ g with pc:=0,load:= [] },8)
 else if g.answer≠0 then ({ g with pc:=0,load:= [] },g.answer)
 else if g.back then ({ g with pc:=0,used:=(g.used+1)%65536 },g.answer)
 else ({ g with pc:=0,head:=(g.head+1)%65536,got:=(Grants.giveR g.tab g.d).2.1,tab:=(Grants.giveR g.tab g.d).1 },g.answer)
def go (g:Tak) (w:Int):Tak × Bool × Int:=
 if g.pc=1 then (g.asked w,false,0)
 else if g.pc=4 then (g.first,true,8)
 else if g.pc=5 then (if w≠g.ep then ({ g with pc:=0 },true,9) else ({ g with linked:=true,pc:=6 },false,0))
 else if g.pc=6 then (if g.waiting w≠0 then ({ g with answer:=g.waiting w,pc:=14 },false,0) else ({ g with answer:=0,pc:=7 },false,0))
 else if g.pc=7 then (if (g.ring:Int)≤w∨0≤idx g.held w then (g.corrupt,false,0) else ({ g with d:=w.toNat,pc:=8 },false,0))
 else if g.pc=8 then (if 8<w then (g.corrupt,false,0) else ({ g with many:=w.toNat,pc:=9 }.words,false,0))
 else if g.pc=9 then ({ g with load:=g.load ++ [w.toNat] }.words,false,0)
 else if g.pc=13 then ({ g with answer:=0,pc:=14 },false,0)
 else if g.pc=14 then ((g.over w).1,true,(g.over w).2)
 else ({ g with pc:=g.pc+1 },false,0)
def gotR (g:Tak):List Nat × Int:=if g.pc=0∧g.got≠0 then (g.load,g.got) else ([],0)
structure Ok (g:Tak) (n W:Nat):Prop where
 r1:1≤g.ring
 r64:g.ring≤64
 room:g.base+4+11*g.ring≤W
 word:W≤65536
 peer:g.peer<n
 own:g.own<65536
 known: -1≤g.known∧g.known<65536
 head:g.head<65536
 used:g.used<65536
 pc:g.pc≤14
 d8:8≤g.pc→g.pc≤9→g.d<g.ring
 dback:g.back=true→g.d<g.ring
 pc10:g.pc=10→g.back=true
 many:g.many≤8
 word9:g.pc=9→g.load.length<g.many
 load0:1≤g.pc→g.pc≤8→g.load= []
 len:g.load.length≤8
 load:∀x∈g.load,x<65536
 tab:g.tab.Ok
 tabn:g.tab.n=g.ring
end Tak
structure GV where
 pe:Nat
 ai:Nat
 avail:Nat→Nat
 len:Nat→Nat
 load:Nat→Nat→Nat
structure TV where
 ce:Nat
 ui:Nat
 used:Nat→Nat
def put1 (f:Nat→Nat) (a x:Nat):Nat→Nat:=fun k=>if k=a then x else f k
def put2 (f:Nat→Nat→Nat) (a b x:Nat):Nat→Nat→Nat:=fun k j=>if k=a∧j=b then x else f k j
def Giv.put (g:Giv) (v:GV):GV:=
 if g.pc=2 then { v with ai:=0 }
 else if g.pc=3 then { v with pe:=g.ep.toNat }
 else if g.pc=8 then { v with load:=put2 v.load g.d g.i (g.load.getD g.i 0) }
 else if g.pc=9 then { v with len:=put1 v.len g.d g.load.length }
 else if g.pc=10 then { v with avail:=put1 v.avail (g.next%g.ring) g.d }
 else if g.pc=12 then { v with ai:=(g.next+1)%65536 }
 else v
def Tak.put (g:Tak) (v:TV):TV:=
 if g.pc=2 then { v with ui:=0 }
 else if g.pc=3 then { v with ce:=g.ep.toNat }
 else if g.pc=10 then { v with used:=put1 v.used (g.used%g.ring) g.d }
 else if g.pc=12 then { v with ui:=(g.used+1)%65536 }
 else v
def Giv.stores (g:Giv):Bool:=g.pc=2||g.pc=3||g.pc=8||g.pc=9||g.pc=10||g.pc=12
def Giv.loads (g:Giv):Bool:=g.pc=5||g.pc=6||g.pc=7
def Tak.stores (g:Tak):Bool:=g.pc=2||g.pc=3||g.pc=10||g.pc=12
def Tak.loads (g:Tak):Bool:=g.pc=5||g.pc=6||g.pc=7||g.pc=8||g.pc=9
abbrev Log:=List (Nat × List Nat)
def Stands (R:Nat) (log:Log) (v:GV) (k:Nat):Prop:=
 v.avail (k%R)=(log.getD k (0, [])).1∧v.len (log.getD k (0, [])).1=(log.getD k (0, [])).2.length∧
  ∀x,x<(log.getD k (0, [])).2.length→v.load (log.getD k (0, [])).1 x=(log.getD k (0, [])).2.getD x 0
structure AInv (V R:Nat) (A:List GV) (log:Log) (hd:Nat):Prop where
 le:∀v∈A,v.pe≤V
 mono:A.Pairwise fun v v'=>v.pe=V→v'.pe=V∧v.ai≤v'.ai
 most:∀v∈A,v.pe=V→v.ai≤log.length
 ok:∀v∈A,v.pe=V→∀k,hd≤k→k<v.ai→Stands R log v k
structure BInv (V R:Nat) (B:List TV) (ulog:List Nat) (tl:Nat):Prop where
 le:∀v∈B,v.ce≤V
 mono:B.Pairwise fun v v'=>v.ce=V→v'.ce=V∧v.ui≤v'.ui
 most:∀v∈B,v.ce=V→v.ui≤ulog.length
 ok:∀v∈B,v.ce=V→∀k,tl≤k→k<v.ui→v.used (k%R)=ulog.getD k 0
section
variable {V R hd hd' tl tl':Nat} {A A':List GV} {B B':List TV} {log:Log} {ulog:List Nat} {v:GV} {u:TV}
theorem AInv.sub (h:AInv V R A log hd) (hs:List.Sublist A' A):AInv V R A' log hd:=
 ⟨fun v hv=>h.le v (hs.subset hv),h.mono.sublist hs,fun v hv=>h.most v (hs.subset hv),fun v hv=>h.ok v (hs.subset hv)⟩
theorem BInv.sub (h:BInv V R B ulog tl) (hs:List.Sublist B' B):BInv V R B' ulog tl:=
 ⟨fun v hv=>h.le v (hs.subset hv),h.mono.sublist hs,fun v hv=>h.most v (hs.subset hv),fun v hv=>h.ok v (hs.subset hv)⟩
theorem AInv.head (h:AInv V R A log hd) (hh:hd≤hd'):AInv V R A log hd':=⟨h.le,h.mono,h.most,fun v hv e k hk=>h.ok v hv e k (Nat.le_trans hh hk)⟩
theorem BInv.tail (h:BInv V R B ulog tl) (hh:tl≤tl'):BInv V R B ulog tl':=⟨h.le,h.mono,h.most,fun v hv e k hk=>h.ok v hv e k (Nat.le_trans hh hk)⟩
theorem AInv.push (h:AInv V R A log hd) (h1:v.pe≤V) (h2:∀x∈A,x.pe=V→v.pe=V∧x.ai≤v.ai) (h3:v.pe=V→v.ai≤log.length) (h4:v.pe=V→∀k,hd≤k→k<v.ai→Stands R log v k):AInv V R (A ++ [v]) log hd:=by
 refine ⟨?_, ?_, ?_, ?_⟩
 ·intro x hx
  rcases List.mem_append.1 hx with hx|hx
  ·exact h.le x hx
  ·rw [List.mem_singleton.1 hx];exact h1
 ·rw [List.pairwise_append]
  refine ⟨h.mono,List.pairwise_singleton _ _,fun a ha b hb=> ?_⟩
  rw [List.mem_singleton.1 hb]
  exact h2 a ha
 ·intro x hx
  rcases List.mem_append.1 hx with hx|hx
  ·exact h.most x hx
  ·rw [List.mem_singleton.1 hx];exact h3
 ·intro x hx
  rcases List.mem_append.1 hx with hx|hx
  ·exact h.ok x hx
  ·rw [List.mem_singleton.1 hx];exact h4
theorem BInv.push (h:BInv V R B ulog tl) (h1:u.ce≤V) (h2:∀x∈B,x.ce=V→u.ce=V∧x.ui≤u.ui) (h3:u.ce=V→u.ui≤ulog.length) (h4:u.ce=V→∀k,tl≤k→k<u.ui→u.used (k%R)=ulog.getD k 0):BInv V R (B ++ [u]) ulog tl:=by
 refine ⟨?_, ?_, ?_, ?_⟩
 ·intro x hx
  rcases List.mem_append.1 hx with hx|hx
  ·exact h.le x hx
  ·rw [List.mem_singleton.1 hx];exact h1
 ·rw [List.pairwise_append]
  refine ⟨h.mono,List.pairwise_singleton _ _,fun a ha b hb=> ?_⟩
  rw [List.mem_singleton.1 hb]
  exact h2 a ha
 ·intro x hx
  rcases List.mem_append.1 hx with hx|hx
  ·exact h.most x hx
  ·rw [List.mem_singleton.1 hx];exact h3
 ·intro x hx
  rcases List.mem_append.1 hx with hx|hx
  ·exact h.ok x hx
  ·rw [List.mem_singleton.1 hx];exact h4
theorem getD_push {α : Type} (l:List α) (x d: α) (k:Nat) (hk:k<l.length):(l ++ [x]).getD k d=l.getD k d:=by
 simp [List.getD,List.getElem?_append_left hk]
theorem getD_last {α : Type} (l:List α) (x d: α):(l ++ [x]).getD l.length d=x:=by
 simp [List.getD]
theorem Stands.grow {k:Nat} {x:Nat × List Nat} (h:Stands R log v k) (hk:k<log.length):Stands R (log ++ [x]) v k:=by
 unfold Stands at *
 rw [getD_push _ _ _ _ hk]
 exact h
theorem AInv.grow (h:AInv V R A log hd) (x:Nat × List Nat):AInv V R A (log ++ [x]) hd:=
 ⟨h.le,h.mono,fun v hv e=>by have:=h.most v hv e;rw [List.length_append];omega,fun v hv e k hk hk2=>(h.ok v hv e k hk hk2).grow (Nat.lt_of_lt_of_le hk2 (h.most v hv e))⟩
theorem BInv.grow (h:BInv V R B ulog tl) (x:Nat):BInv V R B (ulog ++ [x]) tl:=
 ⟨h.le,h.mono,fun v hv e=>by have:=h.most v hv e;rw [List.length_append];omega,fun v hv e k hk hk2=>by rw [getD_push _ _ _ _ (Nat.lt_of_lt_of_le hk2 (h.most v hv e))];exact h.ok v hv e k hk hk2⟩
theorem AInv.next (h:AInv V R A log hd):AInv (V+1) R A [] 0:=
 ⟨fun v hv=>Nat.le_succ_of_le (h.le v hv),h.mono.imp_of_mem fun {v v'} hv hv' _ e=>by have:=h.le v hv;omega,fun v hv e=>by have:=h.le v hv;omega,fun v hv e=>by have:=h.le v hv;omega⟩
theorem BInv.next (h:BInv V R B ulog tl):BInv (V+1) R B [] 0:=
 ⟨fun v hv=>Nat.le_succ_of_le (h.le v hv),h.mono.imp_of_mem fun {v v'} hv hv' _ e=>by have:=h.le v hv;omega,fun v hv e=>by have:=h.le v hv;omega,fun v hv e=>by have:=h.le v hv;omega⟩
end
def Giv.inn (g:Giv) (b:Nat):Prop:=g.linked=true∧g.known=(b:Int)∧g.pc≠2∧g.pc≠3∧g.pc≠4
def Tak.inn (g:Tak) (a:Nat):Prop:=g.linked=true∧g.known=(a:Int)∧g.pc≠2∧g.pc≠3∧g.pc≠4
def Giv.shown (g:Giv):Prop:=g.pc=13∨g.pc=14∨(g.pc=15∧g.answer=0)
instance (g:Giv):Decidable g.shown:=by unfold Giv.shown;infer_instance
instance (g:Giv) (b:Nat):Decidable (g.inn b):=by unfold Giv.inn;infer_instance
instance (g:Tak) (b:Nat):Decidable (g.inn b):=by unfold Tak.inn;infer_instance
def Giv.cur (g:Giv):List Nat:=if 8≤g.pc∧g.pc≤12 then [g.d] else []
structure GIn (V R:Nat) (z:GV) (B:List TV) (log:Log) (ulog H:List Nat) (hd tl:Nat) (g:Giv):Prop where
 all:(g.free++g.out).Perm (List.range R)
 out:g.out.Perm (ulog.drop tl++(H++((log.drop hd).map (·.1)++g.cur)))
 next:log.length=g.next+if g.shown then 1 else 0
 tail:g.tail=tl
 tle:tl≤ulog.length
 ce:∀u∈B,u.ce=V∧tl≤u.ui
 p7:g.pc=7→0<g.left∧∀u∈B,tl+g.left≤u.ui
 i8:g.pc=8→g.i<g.load.length
 p8:g.pc=8→∀x,x<g.i→z.load g.d x=g.load.getD x 0
 p9:9≤g.pc→g.pc≤12→∀x,x<g.load.length→z.load g.d x=g.load.getD x 0
 p10:10≤g.pc→g.pc≤12→z.len g.d=g.load.length
 p11:11≤g.pc→g.pc≤12→z.avail (g.next%R)=g.d
 sh:g.shown→(log.getD g.next (0, [])).2=g.load
structure GWf (a b R:Nat) (g:Giv):Prop where
 ring:g.ring=R
 own:g.own=a
 kn:g.known≤(b:Int)
 kn0:g.known= -1∧0<a∧g.pc≤1∨0≤g.known
 pcm:g.pc≤15
 wf5:g.pc=5→g.linked=false
 wf6:6≤g.pc→g.linked=true
 wfF:g.linked=false→g.free=List.range R∧g.out= []∧g.next=0∧g.tail=0
 ans:g.pc=15→g.answer=0∨g.answer=5∨g.answer=10
structure GInv (a b R:Nat) (A:List GV) (z:GV) (B:List TV) (log:Log) (ulog H:List Nat) (hd tl:Nat) (g:Giv):Prop where
 wf:GWf a b R g
 low:(g.known≠(b:Int)∨g.pc=2∨g.pc=3)→∀v∈A,v.pe<a+b
 mrk:g.known=(b:Int)→g.pc=3→z.ai=0
 hi:g.known=(b:Int)→g.pc≠2→g.pc≠3→z.pe=a+b∧z.ai=log.length
 out0: ¬g.inn b→log= []∧ulog= []∧H= []∧hd=0
 inn:g.inn b→GIn (a+b) R z B log ulog H hd tl g
def Tak.rel (t:Tak):List Nat:=if t.back=true∧(t.pc=1∨(10≤t.pc∧t.pc≤12)) then [t.d] else []
def Tak.told (t:Tak):Nat:=if t.back=true∧(t.pc=13∨t.pc=14) then 1 else 0
def Tak.read (t:Tak):Prop:=t.pc=14∧t.back=false∧t.answer=0
instance (g:Tak):Decidable g.read:=by unfold Tak.read;infer_instance
def Tak.holds (t:Tak):List Nat:=(List.range t.ring).filter fun j=>t.tab.held.getD j false
structure TIn (V R:Nat) (A:List GV) (z:TV) (log:Log) (ulog H:List Nat) (hd:Nat) (t:Tak):Prop where
 pe:∀v∈A,v.pe=V
 hle:∀v∈A,hd≤v.ai
 head:t.head=hd
 H:H.Perm (t.holds++t.rel)
 used:ulog.length=t.used+t.told
 ai:(7≤t.pc∧t.pc≤9∨t.read)→∀v∈A,hd<v.ai
 d8:(8≤t.pc∧t.pc≤9∨t.read)→t.d=(log.getD hd (0, [])).1∧t.d<R∧t.tab.held.getD t.d false=false
 w9:t.pc=9→t.many=(log.getD hd (0, [])).2.length∧t.load=(log.getD hd (0, [])).2.take t.load.length∧t.load.length<t.many
 w14:t.read→t.load=(log.getD hd (0, [])).2
 b11:11≤t.pc→t.pc≤12→z.used (t.used%R)=t.d
structure TWf (a b R:Nat) (t:Tak):Prop where
 ring:t.ring=R
 tabn:t.tab.n=(R:Int)
 tabl:t.tab.held.length=64
 own:t.own=b
 kn:t.known≤(a:Int)
 kn0:t.known= -1∧0<b∧t.pc≤1∨0≤t.known
 pcm:t.pc≤14
 wf5:t.pc=5→t.linked=false
 wf6:6≤t.pc→t.linked=true
 wfF:t.linked=false→(∀j,t.tab.held.getD j false=false)∧t.head=0∧t.used=0∧(t.pc≠0→t.back=false)
 emp:1≤t.pc→t.pc≤8→t.load= []
 nb:6≤t.pc→t.pc≤9→t.back=false
 yb:10≤t.pc→t.pc≤13→t.back=true
 ans:t.pc=14→t.answer=0∨(t.back=false∧(t.answer=6∨t.answer=10))
structure TInv (a b R:Nat) (A:List GV) (B:List TV) (z:TV) (log:Log) (ulog H:List Nat) (hd:Nat) (t:Tak):Prop where
 wf:TWf a b R t
 low:(t.known≠(a:Int)∨t.pc=2∨t.pc=3)→∀v∈B,v.ce<a+b
 mrk:t.known=(a:Int)→t.pc=3→z.ui=0
 hi:t.known=(a:Int)→t.pc≠2→t.pc≠3→z.ce=a+b∧z.ui=ulog.length
 out0: ¬t.inn a→ulog= []∧H= []∧hd=0
 inn:t.inn a→TIn (a+b) R A z log ulog H hd t
inductive GStep (g:Giv) (w:Int):Giv→Bool→Int→Prop where
 | askNew:g.pc=1→w≠g.known→GStep g w { g with known:=w,pc:=2 } false 0
 | askRoom:g.pc=1→w=g.known→g.linked=true→GStep g w { g with pc:=6 } false 0
 | askLink:g.pc=1→w=g.known→g.linked=false→GStep g w { g with pc:=5 } false 0
 | settle:g.pc=4→GStep g w { g with linked:=false,out:= [],next:=0,tail:=0,pc:=0,free:=List.range g.ring } true 8
 | down:g.pc=5→w≠g.ep→GStep g w { g with pc:=0 } true 9
 | link:g.pc=5→w=g.ep→GStep g w { g with linked:=true,pc:=6 } false 0
 | corrupt6 (l:Nat):g.pc=6→((w-g.tail)%65536).toNat=l→g.out.length<l→GStep g w { g with left:=l,pc:=15,answer:=10 } false 0
 | back6 (l:Nat):g.pc=6→((w-g.tail)%65536).toNat=l→ ¬g.out.length<l→0<l→GStep g w { g with left:=l,pc:=7,i:=0 } false 0
 | full6:g.pc=6→((w-g.tail)%65536).toNat=0→g.free= []→GStep g w { g with left:=0,pc:=15,i:=0,answer:=5 } false 0
 | room6 (d:Nat) (r:List Nat) (p:Nat):g.pc=6→((w-g.tail)%65536).toNat=0→g.free=d :: r→(g.load.length=0∧p=9∨0<g.load.length∧p=8)→GStep g w { g with left:=0,pc:=p,i:=0,d:=d,free:=r,out:=g.out ++ [d] } false 0
 | corrupt7:g.pc=7→g.out.findIdx? (fun (x:Nat)=>(x:Int) == w)=none→GStep g w { g with pc:=15,answer:=10 } false 0
 | back7 (k:Nat):g.pc=7→g.out.findIdx? (fun (x:Nat)=>(x:Int) == w)=some k→0<g.left-1→GStep g w { g with out:=g.out.eraseIdx k,free:=g.free ++ [w.toNat],tail:=(g.tail+1)%65536,left:=g.left-1,pc:=7,i:=0 } false 0
 | room7 (k:Nat) (d:Nat) (r:List Nat) (p:Nat):g.pc=7→g.out.findIdx? (fun (x:Nat)=>(x:Int) == w)=some k→g.left-1=0→g.free ++ [w.toNat]=d :: r→(g.load.length=0∧p=9∨0<g.load.length∧p=8)→GStep g w { g with out:=g.out.eraseIdx k ++ [d],free:=r,tail:=(g.tail+1)%65536,left:=g.left-1,pc:=p,i:=0,d:=d } false 0
 | word (p:Nat):g.pc=8→(g.load.length≤g.i+1∧p=9∨g.i+1<g.load.length∧p=8)→GStep g w { g with i:=g.i+1,pc:=p } false 0
 | ring:g.pc=14→GStep g w { g with pc:=15,answer:=0 } false 0
 | reset:g.pc=15→w≠g.known→GStep g w { g with pc:=0 } true 8
 | sent:g.pc=15→w=g.known→g.answer=0→GStep g w { g with pc:=0,next:=(g.next+1)%65536 } true 0
 | told:g.pc=15→w=g.known→g.answer≠0→GStep g w { g with pc:=0 } true g.answer
 | next:(g.pc=2∨g.pc=3∨9≤g.pc∧g.pc≤13)→GStep g w { g with pc:=g.pc+1 } false 0
theorem pc_cases {p:Nat} (h0:p≠0) (h:p≤15):p=1∨p=2∨p=3∨p=4∨p=5∨p=6∨p=7∨p=8∨p=9∨p=10∨p=11∨p=12∨p=13∨p=14∨p=15:=by omega
theorem gstep_of (g:Giv) (w:Int) {g':Giv} {d:Bool} {e:Int} {r:Giv × Bool × Int} (h:GStep g w g' d e) (hr:r=(g',d,e)):GStep g w r.1 r.2.1 r.2.2:=by subst hr;exact h
theorem Giv.go_step (g:Giv) (w:Int) (h0:g.pc≠0) (h:g.pc≤15):GStep g w (g.go w).1 (g.go w).2.1 (g.go w).2.2:=by
 rcases pc_cases h0 h with e|e|e|e|e|e|e|e|e|e|e|e|e|e|e
 ·by_cases h1:w=g.known
  ·by_cases hl:g.linked=true
   ·exact gstep_of g w (.askRoom e h1 hl) (by simp [Giv.go,e,Giv.asked,h1,hl])
   ·exact gstep_of g w (.askLink e h1 (by simpa using hl)) (by simp [Giv.go,e,Giv.asked,h1,hl])
  ·exact gstep_of g w (.askNew e h1) (by simp [Giv.go,e,Giv.asked,h1])
 ·exact gstep_of g w (.next (by omega)) (by simp [Giv.go,e])
 ·exact gstep_of g w (.next (by omega)) (by simp [Giv.go,e])
 ·exact gstep_of g w (.settle e) (by simp [Giv.go,e,Giv.first])
 ·by_cases h1:w=g.ep
  ·exact gstep_of g w (.link e h1) (by simp [Giv.go,e,h1])
  ·exact gstep_of g w (.down e h1) (by simp [Giv.go,e,h1])
 ·generalize hl:((w-g.tail)%65536).toNat=l
  by_cases hc:g.out.length<l
  ·exact gstep_of g w (.corrupt6 l e hl hc) (by simp [Giv.go,e,hl,hc,Giv.corrupt])
  ·by_cases h1:0<l
   ·exact gstep_of g w (.back6 l e hl hc h1) (by simp [Giv.go,e,hl,hc,Giv.roomy,h1])
   ·have h1:l=0:=by omega
    subst h1
    cases hf:g.free with
    | nil=>exact gstep_of g w (.full6 e hl hf) (by simp [Giv.go,e,hl,Giv.roomy,hf])
    | cons d r=>
     by_cases h2:g.load.length=0
     ·exact gstep_of g w (.room6 d r 9 e hl hf (.inl ⟨h2,rfl⟩)) (by simp [Giv.go,e,hl,Giv.roomy,hf,Giv.words,h2])
     ·exact gstep_of g w (.room6 d r 8 e hl hf (.inr ⟨by omega,rfl⟩)) (by simp [Giv.go,e,hl,Giv.roomy,hf,Giv.words,h2])
 ·cases hk:g.out.findIdx? (fun (x:Nat)=>(x:Int) == w) with
  | none=>exact gstep_of g w (.corrupt7 e hk) (by simp [Giv.go,e,hk,Giv.corrupt])
  | some k=>
   by_cases h1:0<g.left-1
   ·exact gstep_of g w (.back7 k e hk h1) (by simp [Giv.go,e,hk,Giv.roomy,Giv.back,h1])
   ·have h1:g.left-1=0:=by omega
    cases hf:g.free ++ [w.toNat] with
    | nil=>simp at hf
    | cons d r=>
     by_cases h2:g.load.length=0
     ·exact gstep_of g w (.room7 k d r 9 e hk h1 hf (.inl ⟨h2,rfl⟩)) (by simp [Giv.go,e,hk,Giv.roomy,Giv.back,h1,hf,Giv.words,h2])
     ·exact gstep_of g w (.room7 k d r 8 e hk h1 hf (.inr ⟨by omega,rfl⟩)) (by simp [Giv.go,e,hk,Giv.roomy,Giv.back,h1,hf,Giv.words,h2])
 ·by_cases h2:g.load.length≤g.i+1
  ·exact gstep_of g w (.word 9 e (.inl ⟨h2,rfl⟩)) (by simp [Giv.go,e,Giv.words,h2])
  ·exact gstep_of g w (.word 8 e (.inr ⟨by omega,rfl⟩)) (by simp [Giv.go,e,Giv.words,h2])
 ·exact gstep_of g w (.next (by omega)) (by simp [Giv.go,e])
 ·exact gstep_of g w (.next (by omega)) (by simp [Giv.go,e])
 ·exact gstep_of g w (.next (by omega)) (by simp [Giv.go,e])
 ·exact gstep_of g w (.next (by omega)) (by simp [Giv.go,e])
 ·exact gstep_of g w (.next (by omega)) (by simp [Giv.go,e])
 ·exact gstep_of g w (.ring e) (by simp [Giv.go,e])
 ·by_cases h1:w=g.known
  ·by_cases h2:g.answer=0
   ·exact gstep_of g w (.sent e h1 h2) (by simp [Giv.go,e,Giv.over,h1,h2])
   ·exact gstep_of g w (.told e h1 h2) (by simp [Giv.go,e,Giv.over,h1,h2])
  ·exact gstep_of g w (.reset e h1) (by simp [Giv.go,e,Giv.over,h1])
theorem GWf.go {a b R:Nat} {g g':Giv} {w e:Int} {d:Bool} (h:GWf a b R g) (hs:GStep g w g' d e) (hw:g.pc=1→0≤w∧w≤b):GWf a b R g':=by
 obtain ⟨ring,own,kn,kn0,pcm,wf5,wf6,wfF,ans⟩:=h
 cases hs<;>constructor<;>grind
theorem drop_cons {α : Type} (l:List α) (k:Nat) (d: α) (hk:k<l.length):l.drop k=l.getD k d :: l.drop (k+1):=by
 rw [List.drop_eq_getElem_cons hk]
 simp [List.getD,hk]
theorem perm_back {out:List Nat} {k:Nat} {w:Int} (h:out.findIdx? (fun (x:Nat)=>(x:Int) == w)=some k):out.Perm (w.toNat :: out.eraseIdx k)∧w=(w.toNat:Int):=by
 obtain ⟨hk,hp,_⟩:=List.findIdx?_eq_some_iff_getElem.1 h
 have e:(out[k]:Int)=w:=by simpa using hp
 refine ⟨?_,by omega⟩
 rw [show w.toNat=out[k] by omega,List.eraseIdx_eq_take_drop_succ]
 have h1:out=out.take k++out[k] :: out.drop (k+1):=by
  rw [List.getElem_cons_drop hk,List.take_append_drop]
 conv=>lhs;rw [h1]
 exact List.perm_middle
theorem GIn.quiet {a b R hd tl:Nat} {z:GV} {B:List TV} {log:Log} {ulog H:List Nat} {g g':Giv} {w e:Int} {d:Bool} {u:TV}
  (hR:1≤R) (hU:ulog.length<60000) (hN:log.length<60000) (hB:BInv (a+b) R B ulog tl) (h:GIn (a+b) R z B log ulog H hd tl g) (hr:g.ring=R) (hw:GWf a b R g) (hi:g.inn b) (hs:GStep g w g' d e) (hst:g.stores=false)
  (hu:u∈B) (hm:∀x∈B,u.ce=a+b→x.ce=a+b∧u.ui≤x.ui) (h1:g.pc=1∨g.pc=15→w=(b:Int)) (h6:g.pc=6→w=(u.ui:Int)) (h7:g.pc=7→w=(u.used (g.tail%R):Int)):
  ∃tl',tl≤tl'∧GIn (a+b) R z B log ulog H hd tl' g':=by
 have hu1:=h.ce u hu
 have hu2:=hB.most u hu hu1.1
 cases hs with
 | askNew p q=>exact absurd (h1 (.inl p)) (by rw [←hi.2.1];exact q)
 | askRoom p q r=>
  refine ⟨tl,Nat.le_refl _, ?_⟩
  obtain ⟨all,out,next,tail,tle,ce,p7,i8,p8,p9,p10,p11,sh⟩:=h
  constructor<;>grind [Giv.shown,Giv.cur]
 | askLink p q r=>exact absurd hi.1 (by simp [r])
 | settle p=>exact absurd p hi.2.2.2.2
 | down p q=>exact absurd (hw.wf5 p) (by simp [hi.1])
 | link p q=>exact absurd (hw.wf5 p) (by simp [hi.1])
 | corrupt6 l p q r=>
  refine ⟨tl,Nat.le_refl _, ?_⟩
  obtain ⟨all,out,next,tail,tle,ce,p7,i8,p8,p9,p10,p11,sh⟩:=h
  constructor<;>grind [Giv.shown,Giv.cur]
 | back6 l p q r s=>
  refine ⟨tl,Nat.le_refl _, ?_⟩
  obtain ⟨all,out,next,tail,tle,ce,p7,i8,p8,p9,p10,p11,sh⟩:=h
  have hl:tl+l≤u.ui:=by
   have:=h6 p
   have:=tail
   omega
  refine ⟨all,by simpa [Giv.cur,p] using out,by simpa [Giv.shown,p] using next,tail,tle,ce,fun _=>⟨s,fun x hx=>Nat.le_trans hl (hm x hx hu1.1).2⟩, ?_, ?_, ?_, ?_, ?_, ?_⟩<;>simp [Giv.shown]
 | full6 p q r=>
  refine ⟨tl,Nat.le_refl _, ?_⟩
  obtain ⟨all,out,next,tail,tle,ce,p7,i8,p8,p9,p10,p11,sh⟩:=h
  constructor<;>grind [Giv.shown,Giv.cur]
 | room6 dd r p' p q hf hp=>
  refine ⟨tl,Nat.le_refl _, ?_⟩
  obtain ⟨all,out,next,tail,tle,ce,p7,i8,p8,p9,p10,p11,sh⟩:=h
  have hp':p'=8∨p'=9:=by omega
  refine ⟨?_, ?_, ?_,tail,tle,ce, ?_, ?_, ?_, ?_, ?_, ?_, ?_⟩
  ·rw [hf] at all
   rw [List.perm_iff_count] at all ⊢
   intro x
   have:=all x
   simp only [List.count_append,List.count_cons,List.count_nil] at this ⊢
   omega
  ·have e1:g.cur= []:=by simp [Giv.cur,p]
   rw [e1] at out
   rw [List.perm_iff_count] at out ⊢
   intro x
   have:=out x
   simp only [Giv.cur,show 8≤p'∧p'≤12 by omega,and_self,if_true]
   simp only [List.count_append,List.count_cons,List.count_nil] at this ⊢
   omega
  ·have e1: ¬g.shown:=by simp [Giv.shown,p]
   rw [if_neg e1] at next
   rw [if_neg (by simp only [Giv.shown];omega)]
   exact next
  all_goals grind [Giv.shown]
 | corrupt7 p q=>
  refine ⟨tl,Nat.le_refl _, ?_⟩
  obtain ⟨all,out,next,tail,tle,ce,p7,i8,p8,p9,p10,p11,sh⟩:=h
  constructor<;>grind [Giv.shown,Giv.cur]
 | back7 k p q r=>
  obtain ⟨all,out,next,tail,tle,ce,p7,i8,p8,p9,p10,p11,sh⟩:=h
  obtain ⟨hb,hwn⟩:=perm_back q
  have h7l:=(p7 p).2 u hu
  have h7p:=(p7 p).1
  have hlt:tl<ulog.length:=by omega
  have hv:=hB.ok u hu hu1.1 tl (Nat.le_refl _) (by omega)
  have hw7:w.toNat=ulog.getD tl 0:=by rw [h7 p,tail,Int.toNat_natCast];exact hv
  have hd:=drop_cons ulog tl 0 hlt
  refine ⟨tl+1,Nat.le_succ _, ?_, ?_,by simpa [Giv.shown,p] using next,by simp only [tail];omega,hlt,fun x hx=>⟨(ce x hx).1,by have:=(p7 p).2 x hx;omega⟩,fun _=>⟨r,fun x hx=>by have:=(p7 p).2 x hx;simp only;omega⟩, ?_, ?_, ?_, ?_, ?_, ?_⟩
  ·rw [List.perm_iff_count] at all hb ⊢
   intro x
   have h1:=all x
   have h2:=hb x
   simp only [List.count_append,List.count_cons,List.count_nil] at h1 h2 ⊢
   omega
  ·have e1:g.cur= []:=by simp [Giv.cur,p]
   rw [e1,hd, ←hw7] at out
   rw [List.perm_iff_count] at out hb ⊢
   intro x
   have h1:=out x
   have h2:=hb x
   have e2:∀y,({ g with out:=g.out.eraseIdx k,free:=g.free ++ [w.toNat],tail:=y,left:=g.left-1,pc:=7,i:=0 }:Giv).cur= []:=fun y=>by simp [Giv.cur]
   rw [e2]
   simp only [List.count_append,List.count_cons,List.count_nil] at h1 h2 ⊢
   omega
  all_goals grind [Giv.shown]
 | room7 k dd r p' p q hl hf hp=>
  obtain ⟨all,out,next,tail,tle,ce,p7,i8,p8,p9,p10,p11,sh⟩:=h
  obtain ⟨hb,hwn⟩:=perm_back q
  have h7l:=(p7 p).2 u hu
  have h7p:=(p7 p).1
  have hlt:tl<ulog.length:=by omega
  have hv:=hB.ok u hu hu1.1 tl (Nat.le_refl _) (by omega)
  have hw7:w.toNat=ulog.getD tl 0:=by rw [h7 p,tail,Int.toNat_natCast];exact hv
  have hd:=drop_cons ulog tl 0 hlt
  have hp':p'=8∨p'=9:=by omega
  refine ⟨tl+1,Nat.le_succ _, ?_, ?_, ?_,by simp only [tail];omega,hlt,fun x hx=>⟨(ce x hx).1,by have:=(p7 p).2 x hx;omega⟩,by simp only;omega, ?_, ?_, ?_, ?_, ?_, ?_⟩
  ·rw [List.perm_iff_count] at all hb ⊢
   intro x
   have h1:=all x
   have h2:=hb x
   have h3:=congrArg (List.count x) hf
   simp only [List.count_append,List.count_cons,List.count_nil] at h1 h2 h3 ⊢
   omega
  ·have e1:g.cur= []:=by simp [Giv.cur,p]
   rw [e1,hd, ←hw7] at out
   rw [List.perm_iff_count] at out hb ⊢
   intro x
   have h1:=out x
   have h2:=hb x
   simp only [Giv.cur,show 8≤p'∧p'≤12 by omega,and_self,if_true]
   simp only [List.count_append,List.count_cons,List.count_nil] at h1 h2 ⊢
   omega
  ·have e1: ¬g.shown:=by simp [Giv.shown,p]
   rw [if_neg e1] at next
   rw [if_neg (by simp only [Giv.shown];omega)]
   exact next
  all_goals grind [Giv.shown]
 | word p' p q=>exact absurd hst (by simp [Giv.stores,p])
 | ring p=>
  refine ⟨tl,Nat.le_refl _, ?_⟩
  obtain ⟨all,out,next,tail,tle,ce,p7,i8,p8,p9,p10,p11,sh⟩:=h
  constructor<;>grind [Giv.shown,Giv.cur]
 | reset p q=>exact absurd (h1 (.inr p)) (by rw [←hi.2.1];exact q)
 | sent p q r=>
  refine ⟨tl,Nat.le_refl _, ?_⟩
  obtain ⟨all,out,next,tail,tle,ce,p7,i8,p8,p9,p10,p11,sh⟩:=h
  have e1:g.shown:= .inr (.inr ⟨p,r⟩)
  rw [if_pos e1] at next
  refine ⟨all,by simpa [Giv.cur,p] using out, ?_,tail,tle,ce, ?_, ?_, ?_, ?_, ?_, ?_, ?_⟩
  ·rw [if_neg (by simp [Giv.shown])]
   simp only
   omega
  all_goals simp [Giv.shown]
 | told p q r=>
  refine ⟨tl,Nat.le_refl _, ?_⟩
  obtain ⟨all,out,next,tail,tle,ce,p7,i8,p8,p9,p10,p11,sh⟩:=h
  constructor<;>grind [Giv.shown,Giv.cur]
 | next p=>
  refine ⟨tl,Nat.le_refl _, ?_⟩
  have p':g.pc=11∨g.pc=13:=by
   have:=hi.2.2
   simp only [Giv.stores,Bool.or_eq_false_iff,decide_eq_false_iff_not] at hst
   omega
  obtain ⟨all,out,next,tail,tle,ce,p7,i8,p8,p9,p10,p11,sh⟩:=h
  constructor<;>grind [Giv.shown,Giv.cur]
theorem mod_ne {k n R:Nat} (h1:k<n) (h2:n-k<R):k%R≠n%R:=by
 intro h
 have hR:0<R:=by omega
 have e1:=Nat.div_add_mod k R
 have e2:=Nat.div_add_mod n R
 rw [h] at e1
 have hd:R*(n / R)=R*(k / R)+(n-k):=by omega
 rcases Nat.lt_or_ge (k / R) (n / R) with hlt|hge
 ·have:=Nat.mul_le_mul_left R hlt
  rw [Nat.mul_succ] at this
  omega
 ·have:=Nat.mul_le_mul_left R hge
  omega
section
variable {V R hd tl:Nat} {z:GV} {B:List TV} {log:Log} {ulog H:List Nat} {g g':Giv} {w e:Int} {d:Bool} {A:List GV}
theorem GIn.nodup (h:GIn V R z B log ulog H hd tl g):g.out.Nodup∧g.out.length≤R∧∀x∈g.out,x<R:=by
 have h1:(g.free++g.out).Nodup:=(h.all.nodup_iff).2 List.nodup_range
 have h2:=h.all.length_eq
 rw [List.length_append,List.length_range] at h2
 refine ⟨(List.nodup_append.1 h1).2.1,by omega,fun x hx=> ?_⟩
 have:=h.all.mem_iff.1 (List.mem_append_right _ hx)
 simpa using this
theorem GIn.apart (h:GIn V R z B log ulog H hd tl g) (h8:8≤g.pc) (h12:g.pc≤12) (k:Nat) (h1:hd≤k) (h2:k<log.length):(log.getD k (0, [])).1≠g.d:=by
 have hn:=h.nodup.1
 rw [h.out.nodup_iff] at hn
 have e1:g.cur= [g.d]:=by simp [Giv.cur,h8,h12]
 rw [e1] at hn
 have hn:=(List.nodup_append.1 hn).2.1
 have hn:=(List.nodup_append.1 hn).2.1
 have hn:=(List.nodup_append.1 hn).2.2
 refine hn _ ?_ _ (by simp)
 rw [List.mem_map]
 refine ⟨log.getD k (0, []), ?_,rfl⟩
 have:log.getD k (0, [])=(log.drop hd)[k-hd]'(by rw [List.length_drop];omega):=by
  simp [List.getD,h2,show hd+(k-hd)=k by omega]
 rw [this]
 exact List.getElem_mem _
theorem GIn.room (h:GIn V R z B log ulog H hd tl g) (h8:8≤g.pc) (h12:g.pc≤12):log.length-hd<R:=by
 have h1:=h.out.length_eq
 have h2:=h.nodup.2.1
 have e1:g.cur= [g.d]:=by simp [Giv.cur,h8,h12]
 rw [e1] at h1
 simp only [List.length_append,List.length_map,List.length_drop,List.length_cons,List.length_nil] at h1
 omega
theorem GIn.next_of (h:GIn V R z B log ulog H hd tl g) (h8:g.pc≤12):log.length=g.next:=by
 have:=h.next
 rw [if_neg (by simp only [Giv.shown];omega)] at this
 simpa using this
theorem put1_same (f:Nat→Nat) (a x:Nat):put1 f a x a=x:=if_pos rfl
theorem put1_other (f:Nat→Nat) (a k x:Nat) (h:k≠a):put1 f a x k=f k:=if_neg h
theorem put2_same (f:Nat→Nat→Nat) (a b x:Nat):put2 f a b x a b=x:=if_pos ⟨rfl,rfl⟩
theorem put2_other (f:Nat→Nat→Nat) (a b k j x:Nat) (h:k≠a∨j≠b):put2 f a b x k j=f k j:=if_neg (by omega)
theorem GIn.store (hN:log.length<60000) (hr:g.ring=R) (hA:AInv V R A log hd) (h:GIn V R z B log ulog H hd tl g) (hz:z∈A) (hzp:z.pe=V) (hza:z.ai=log.length) (hhd:hd≤log.length) (hi:8≤g.pc) (hs:GStep g w g' d e) (hst:g.stores=true):
  ∃log',(log'=log∨g.pc=12∧log'=log ++ [(g.d,g.load)])∧GIn V R (g.put z) B log' ulog H hd tl g'∧(g.put z).pe=V∧(g.put z).ai=log'.length∧z.ai≤(g.put z).ai∧∀k,hd≤k→k<(g.put z).ai→Stands R log' (g.put z) k:=by
 have hp:g.pc=8∨g.pc=9∨g.pc=10∨g.pc=12:=by
  simp only [Giv.stores,Bool.or_eq_true,decide_eq_true_eq] at hst
  omega
 have h12:g.pc≤12:=by omega
 have hap:=h.apart hi h12
 have hroom:=h.room hi h12
 have hnx:=h.next_of h12
 have hok:=hA.ok z hz hzp
 rw [hza] at hok
 obtain ⟨all,out,next,tail,tle,ce,p7,i8,p8,p9,p10,p11,sh⟩:=h
 have hcur:g.cur= [g.d]:=by simp [Giv.cur,hi,h12]
 rcases hp with p|p|p|p
 ·have hput:g.put z= { z with load:=put2 z.load g.d g.i (g.load.getD g.i 0) }:=by simp [Giv.put,p]
  rw [hput]
  have i8:=i8 p
  have p8:=p8 p
  cases hs with
  | word p' q hq=>
   refine ⟨log, .inl rfl,⟨all, ?_, ?_,tail,tle,ce,by simp only;omega, ?_, ?_, ?_, ?_, ?_, ?_⟩,hzp,hza,Nat.le_refl _,fun k hk hk2=> ?_⟩
   ·rw [hcur] at out
    simpa [Giv.cur,show 8≤p'∧p'≤12 by omega] using out
   ·rw [if_neg (by simp only [Giv.shown];omega)];exact hnx
   ·simp only;omega
   ·simp only
    intro _ x hx
    by_cases e:x=g.i
    ·subst e;exact put2_same _ _ _ _
    ·rw [put2_other _ _ _ _ _ _ (.inr e)];exact p8 x (by omega)
   ·simp only
    intro h9 _ x hx
    by_cases e:x=g.i
    ·subst e;exact put2_same _ _ _ _
    ·rw [put2_other _ _ _ _ _ _ (.inr e)];exact p8 x (by omega)
   ·simp only;omega
   ·simp only;omega
   ·simp only [Giv.shown];omega
   ·have hk2:k<z.ai:=hk2
    have:=hok k hk (by omega)
    refine ⟨this.1,this.2.1,fun x hx=> ?_⟩
    show put2 _ _ _ _ _ _=_
    rw [put2_other _ _ _ _ _ _ (.inl (hap k hk (by omega)))]
    exact this.2.2 x hx
  | _=>omega
 ·have hput:g.put z= { z with len:=put1 z.len g.d g.load.length }:=by simp [Giv.put,p]
  rw [hput]
  cases hs with
  | next q=>
   refine ⟨log, .inl rfl,⟨all, ?_, ?_,tail,tle,ce,by simp only;omega,by simp only;omega,by simp only;omega, ?_, ?_, ?_, ?_⟩,hzp,hza,Nat.le_refl _,fun k hk hk2=> ?_⟩
   ·rw [hcur] at out
    simpa [Giv.cur,p] using out
   ·rw [if_neg (by simp only [Giv.shown];omega)];exact hnx
   ·intro _ _ x hx
    exact p9 (by omega) (by omega) x hx
   ·intro _ _
    exact put1_same _ _ _
   ·simp only;omega
   ·simp only [Giv.shown];omega
   ·have hk2:k<z.ai:=hk2
    have:=hok k hk (by omega)
    refine ⟨this.1, ?_,this.2.2⟩
    show put1 _ _ _ _=_
    rw [put1_other _ _ _ _ (hap k hk (by omega))]
    exact this.2.1
  | _=>omega
 ·have hput:g.put z= { z with avail:=put1 z.avail (g.next%g.ring) g.d }:=by simp [Giv.put,p]
  rw [hput]
  cases hs with
  | next q=>
   refine ⟨log, .inl rfl,⟨all, ?_, ?_,tail,tle,ce,by simp only;omega,by simp only;omega,by simp only;omega, ?_, ?_, ?_, ?_⟩,hzp,hza,Nat.le_refl _,fun k hk hk2=> ?_⟩
   ·rw [hcur] at out
    simpa [Giv.cur,p] using out
   ·rw [if_neg (by simp only [Giv.shown];omega)];exact hnx
   ·intro _ _ x hx
    exact p9 (by omega) (by omega) x hx
   ·intro _ _
    exact p10 (by omega) (by omega)
   ·intro _ _
    show put1 _ _ _ _=_
    rw [hr]
    exact put1_same _ _ _
   ·simp only [Giv.shown];omega
   ·have hk2:k<z.ai:=hk2
    have:=hok k hk (by omega)
    refine ⟨?_,this.2⟩
    show put1 _ _ _ _=_
    rw [hr,put1_other _ _ _ _ (mod_ne (by omega) (by omega))]
    exact this.1
  | _=>omega
 ·have hput:g.put z= { z with ai:=(g.next+1)%65536 }:=by simp [Giv.put,p]
  rw [hput]
  have hmod:(g.next+1)%65536=g.next+1:=by omega
  cases hs with
  | next q=>
   have hl:(log ++ [(g.d,g.load)]).length=g.next+1:=by rw [List.length_append,hnx];rfl
   have hgl:(log ++ [(g.d,g.load)]).getD g.next (0, [])=(g.d,g.load):=by rw [←hnx];exact getD_last _ _ _
   refine ⟨log ++ [(g.d,g.load)], .inr ⟨p,rfl⟩,⟨all, ?_, ?_,tail,tle,ce,by simp only;omega,by simp only;omega,by simp only;omega,by simp only;omega,by simp only;omega,by simp only;omega, ?_⟩,hzp, ?_, ?_,fun k hk hk2=> ?_⟩
   ·rw [hcur] at out
    have e1:({ g with pc:=g.pc+1 }:Giv).cur= []:=by simp [Giv.cur,p]
    have e2:(log ++ [(g.d,g.load)]).drop hd=log.drop hd ++ [(g.d,g.load)]:=List.drop_append_of_le_length hhd
    rw [e1,e2,List.map_append]
    simpa using out
   ·rw [if_pos (by simp only [Giv.shown];omega),hl]
   ·intro _
    simp only [hgl]
   ·show (g.next+1)%65536=_
    omega
   ·show _≤(g.next+1)%65536
    omega
   ·have hk2:k<(g.next+1)%65536:=hk2
    by_cases e:k=g.next
    ·subst e
     unfold Stands
     rw [hgl]
     exact ⟨p11 (by omega) (by omega),p10 (by omega) (by omega),p9 (by omega) (by omega)⟩
    ·exact (hok k hk (by omega)).grow (by omega)
  | _=>omega
end
end Go.Proofs.YtaaffebnajjfhaaGreatDoor.T
