/- Texts of this proof, merged: New2, New3, New4, New5. -/
import Derived.Test.YtaaffebnajjfhaaGreatDoorH36
namespace Go.Proofs.YtaaffebnajjfhaaGreatDoor.T
set_option linter.unusedVariables false
set_option linter.unusedSimpArgs false
set_option linter.unusedSectionVars false
open Go.RowKit
theorem zero137:(Tryz.prog.info? 137).map (fun i=>(i.zero,i.size,i.bytes))=some (some (.pointer none),1,8):=by kernel_rfl
theorem under139:Tryz.prog.underlying 139=some (.slice 137):=by kernel_rfl
theorem bp_push (W:World) (v:Value) (n:Nat) (xs:List Value) (hn:n≤100) (h:RowZ W 137 1 v n xs) (a:Option Addr):
  ∃A7 q7 w7,(Builtin.append_ #[139,139] 139 #[v, .slice (some ⟨W.heap.size,0,none⟩) 1 1]).run Tryz.prog (W.alloc (.cells #[.pointer a] 137))= .ok (.slice A7 (n+1) q7) w7∧
   RowZ w7 137 1 (.slice A7 (n+1) q7) (n+1) (xs ++ [.pointer a])∧(W.alloc (.cells #[.pointer a] 137)).grownBy w7 v.ownBlock∧((Value.slice A7 (n+1) q7).ownBlock=v.ownBlock∨(Value.slice A7 (n+1) q7).ownBlock=some (W.alloc (.cells #[.pointer a] 137)).heap.size):=by
 obtain ⟨i0,hi,hzz⟩:=Option.map_eq_some_iff.1 zero137
 simp only [Prod.mk.injEq] at hzz
 obtain ⟨hz0,hz1,hz2⟩:=hzz
 have hb:Below W.heap.size W (W.alloc (.cells #[.pointer a] 137)):=(Below.refl _ _).alloc (Nat.le_refl _) _
 have n6:=Blk.new W 137 [.pointer a]
 obtain ⟨v7,w7,h1,h2,h3,h4⟩:=RowZ.append (P:=Tryz.prog) (W.alloc (.cells #[.pointer a] 137)) 139 139 137 i0 _ 1 8 under139 hi hz0 hz1 hz2 rfl (by decide) _ _ _ (h.move fun k q=>hb.block k (h.lt k q)) ⟨W.heap.size,0,none⟩ 1 1 [.pointer a] rfl
  (by intro j u hu;rw [add_lit,Nat.zero_add];exact (n6.cell j).trans hu) (by intro u hu;rw [List.mem_singleton.1 hu];rfl) (by unfold maxLen;omega) (by omega)
 obtain ⟨A7,q7,hv⟩:=h2.slice
 subst hv
 exact ⟨A7,q7,w7,h1,h2,h3,h4⟩
def ptrs (i:Nat) (f:Nat→Nat):List Value:=(List.range i).map fun p=>ptr (f p)
theorem ptrs_push (i:Nat) (f:Nat→Nat) (g:Nat):ptrs (i+1) (upd f i g)=ptrs i f ++ [ptr g]:=by
 unfold ptrs
 rw [List.range_succ,List.map_append,List.map_cons,List.map_nil,upd_same]
 congr 1
 refine List.map_congr_left fun p hp=> ?_
 rw [upd_other _ _ _ _ (by have:=List.mem_range.1 hp;omega)]
structure BusIn (w u:World) (W most i bb:Nat) (v:Value) (buf:Nat→Nat):Prop where
 b:Below w.heap.size w u
 ram:RamAt u (w.heap.size+1) w.heap.size W (fun _=>0)
 bus:Blk u bb 141 [.pointer (some ⟨w.heap.size+1,0,none⟩),v]
 row:RowZ u 137 1 v i (ptrs i buf)
 bufs:∀j,j<i→Blk u (buf j) 186 [.int .i64 most,nilS]
 inj:∀j k,j<i→k<i→buf j=buf k→j=k
 busge:w.heap.size≤bb
 own:∀k,v.ownBlock=some k→w.heap.size≤k
 bge:∀j,j<i→w.heap.size≤buf j
theorem busStage {w u:World} {W most i bus:Nat} {v:Value} {buf:Nat→Nat} (h:BusIn w u W most i bus v buf) (hi:i≤8) (h1:1≤most) (h2:most≤16):
  Calls Tryz.prog 78 #[.int .i64 most] u.drew fun e x'=>∃a,e= .returned (.pointer a)∧∃A7 q7 w7,(Builtin.append_ #[139,139] 139 #[v, .slice (some ⟨x'.heap.size,0,none⟩) 1 1]).run Tryz.prog (x'.alloc (.cells #[.pointer a] 137))= .ok (.slice A7 (i+1) q7) w7∧
   x'.cell? ⟨bus,1,none⟩=some v∧(x'.alloc (.cells #[.pointer a] 137)).cell? ⟨bus,1,none⟩=some v∧w7.cell? ⟨bus,1,none⟩=some v∧w7.frozen? ⟨bus,1,none⟩=false∧∃buf',BusIn w (w7.setCell ⟨bus,1,none⟩ (.slice A7 (i+1) q7)) W most (i+1) bus (.slice A7 (i+1) q7) buf':=by
 refine (bnew_any most h1 h2 u.drew).mono ?_
 rintro e x' ⟨rfl,rfl⟩
 have hx:Below u.heap.size u (u.drew.alloc (.cells #[.int .i64 most, .slice none 0 0] 186)):=(Below.refl _ _).drew.alloc (Nat.le_refl _) _
 have hn:Blk (u.drew.alloc (.cells #[.int .i64 most, .slice none 0 0] 186)) u.heap.size 186 [.int .i64 most,nilS]:=Blk.new u.drew 186 [.int .i64 most,nilS]
 generalize hxe:u.drew.alloc (.cells #[.int .i64 most, .slice none 0 0] 186)=x at *
 have hrow:=h.row.move (w':=x) fun k q=>hx.block k (h.row.lt k q)
 obtain ⟨A7,q7,w7,e1,e2,e3,e4⟩:=bp_push x v i _ (by omega) hrow (some ⟨u.heap.size,0,none⟩)
 have ha:Below x.heap.size x (x.alloc (.cells #[.pointer (some ⟨u.heap.size,0,none⟩)] 137)):=(Below.refl _ _).alloc (Nat.le_refl _) _
 have hua:Below u.heap.size u (x.alloc (.cells #[.pointer (some ⟨u.heap.size,0,none⟩)] 137)):=hx.trans (ha.mono hx.size)
 have kf:∀ {a b:World} (hb:Below a.heap.size a b),Keep (fun _=>False) a b:=fun hb=>Keep.ofFresh hb (B:=0)
 have kg:=Keep.grown e3
 have bx:=h.bus.keep (kf hx) (fun q=>q)
 have ba:=h.bus.keep (kf hua) (fun q=>q)
 have b7:=ba.keep kg (fun q=>h.row.ne h.bus (by decide) q)
 have hlv:∀k,v.ownBlock=some k→k<u.heap.size:=fun k q=>h.row.lt k q
 have hs7:=kg.size
 have hsa:x.heap.size<(x.alloc (.cells #[.pointer (some ⟨u.heap.size,0,none⟩)] 137)).heap.size:=by simp
 have hsx:=hx.size
 have hsb:=h.b.size
 have hR:RamAt w7 (w.heap.size+1) w.heap.size W (fun _=>0):=by
  have r1:=h.ram.keep (kf hua) (fun q=>q) (fun q=>q)
  exact r1.keep kg (fun q=>h.row.ne h.ram.blk (by decide) q) (fun q=>h.row.ne h.ram.row (by decide) q)
 have hB:∀j,j<i→Blk w7 (buf j) 186 [.int .i64 most,nilS]:=fun j hj=>((h.bufs j hj).keep (kf hua) (fun q=>q)).keep kg (fun q=>h.row.ne (h.bufs j hj) (by decide) q)
 have hN:Blk w7 u.heap.size 186 [.int .i64 most,nilS]:=(hn.keep (kf ha) (fun q=>q)).keep kg (fun q=>by have:=hlv _ q;omega)
 have kw:Below w.heap.size w w7:=by
  have:=h.b.trans (hua.mono hsb)
  refine this.trans (Keep.toBelow (kg.mono (fun k _ q=>h.own k q)) this.size)
 have hset:Keep (fun k=>k=bus) w7 (w7.setCell ⟨bus,1,none⟩ (.slice A7 (i+1) q7)):=Keep.setCell (F:=fun k=>k=bus) (p:=⟨bus,1,none⟩) (Keep.refl _ _) (fun _=>rfl) _
 rw [show Value.pointer (some ⟨u.heap.size,0,none⟩)=ptr u.heap.size from rfl, ←ptrs_push] at e2
 refine ⟨_,rfl,A7,q7,w7,e1,bx.cell 1,ba.cell 1,b7.cell 1,b7.free 1,upd buf i u.heap.size, ?_⟩
 refine ⟨kw.trans (Keep.toBelow (hset.mono (fun k _ q=>by rw [q];exact h.busge)) kw.size), ?_,b7.set 1 _,e2.far b7 (by decide) _ _,fun j hj=> ?_,fun j k hj hk e=> ?_,h.busge,fun k q=> ?_,fun j hj=> ?_⟩
 ·exact hR.keep hset (fun q=>(hR.blk.ne b7 (by decide)) q) (fun q=>(hR.row.ne b7 (by decide)) q)
 ·by_cases ej:j=i
  ·subst ej;rw [upd_same];exact hN.far (p:=⟨bus,1,none⟩) (hN.ne b7 (by decide)) _
  ·rw [upd_other _ _ _ _ ej];exact (hB j (by omega)).far (p:=⟨bus,1,none⟩) ((hB j (by omega)).ne b7 (by decide)) _
 ·by_cases ej:j=i
  ·by_cases ek:k=i
   ·omega
   ·subst ej
    rw [upd_same,upd_other _ _ _ _ ek] at e
    have:=(h.bufs k (by omega)).lt
    omega
  ·by_cases ek:k=i
   ·subst ek
    rw [upd_same,upd_other _ _ _ _ ej] at e
    have:=(h.bufs j (by omega)).lt
    omega
   ·rw [upd_other _ _ _ _ ej,upd_other _ _ _ _ ek] at e
    exact h.inj j k (by omega) (by omega) e
 ·rcases e4 with e5|e5
  ·rw [e5] at q;exact h.own k q
  ·rw [e5] at q
   injection q with q
   omega
 ·by_cases ej:j=i
  ·subst ej;rw [upd_same];exact hsb
  ·rw [upd_other _ _ _ _ ej];exact h.bge j (by omega)
structure BusNew (w w':World) (L:BusL) (n W most:Nat):Prop where
 at_:BusAt w' L n W most (fun _=>nilS) (fun _=>0) (fun _=> [])
 b:Below w.heap.size w w'
 row:L.row=w.heap.size
 ge:w.heap.size≤L.bus∧w.heap.size≤L.ram∧w.heap.size≤L.bufs∧∀j,j<n→w.heap.size≤L.buf j
theorem BusIn.done {w u:World} {W most n bus:Nat} {v:Value} {buf:Nat→Nat} (h:BusIn w u W most n bus v buf) (hn:1≤n) (hn8:n≤8) (h1:1≤most) (h2:most≤16):∃L:BusL,L.bus=bus∧BusNew w u L n W most:=by
 obtain ⟨g,c,hv,hc,⟨cur,hcur⟩,hcell⟩:=h.row.cells (by omega)
 have hg:w.heap.size≤g:=h.own g (by rw [hv];rfl)
 refine ⟨⟨bus,w.heap.size+1,w.heap.size,g,cur,c,buf⟩,rfl,⟨⟨by have:=h.bus;rw [hv] at this;exact this,h.ram,hcur,fun i hi=> ?_,fun i hi=>⟨h.bufs i hi,Row.nil _ _ _,fun x hx=>(by simp at hx),h1,h2,by simp⟩,fun i j hi hj e=>h.inj i j hi hj e,fun i j _ _ _ k q=>by simp [nilS,Value.ownBlock] at q,fun i _ x hx=>by simp at hx,hn8⟩,h.b,rfl,h.busge,by show w.heap.size≤w.heap.size+1;omega,hg,h.bge⟩⟩
 have:=(hcell i (by omega)).1
 rw [hcur.cell] at this
 show cur[i]? = _
 rw [this]
 unfold ptrs
 rw [List.getElem?_map,List.getElem?_range hi]
 rfl
set_option maxHeartbeats 2000000 in
set_option maxRecDepth 100000 in
theorem busNew_any (n W most:Nat) (hn:1≤n) (hn8:n≤8) (hW:1≤W) (hW2:W≤65536) (h1:1≤most) (h2:most≤16) (w:World):
  Calls Tryz.prog 38 #[.int .i64 n, .int .i64 W, .int .i64 most] w fun e w'=>∃L:BusL,e= .returned (.tuple #[.pointer (some ⟨L.bus,0,none⟩), .int .i64 0])∧BusNew w w' L n W most:=by
 have HR:=Lib.hid (ramNew_any W hW hW2 w)
 have e1:decide ((n:Int)<1)=false:=by simp;omega
 have e2:decide ((8:Int)<n)=false:=by simp;omega
 have HB:=Lib.hid (fun u=>bnew_any most h1 h2 u)
 have HH:=Lib.hid (And.intro h1 h2)
 have H1:=Lib.hid (And.intro hW hW2)
 clear hW hW2
 go_enter Tryz.func38,Tryz.ntmps38
 go_wp2_with fail
 refine HR.out.mono ?_
 rintro e w1 ⟨rfl,hram,hb1⟩
 have HM:=Lib.hid (And.intro hram hb1)
 clear hram hb1
 go_wp2_with fail
 refine (HB.out _).mono ?_
 rintro e w2 ⟨rfl,hw2⟩
 have hb12:Below w1.heap.size w1 w2:=by rw [hw2];exact (Below.refl _ _).alloc (Nat.le_refl _) _
 have HW2:=Lib.hid (And.intro hw2 hb12)
 clear hw2 hb12
 go_wp2_with fail
 go_loopw [35] (fun jv u=>∃i:Nat,i≤n∧jv= .int .i64 i∧∃v buf,BusIn w u W most i w2.heap.size v buf)
  (fun jv _=>n-(intOf jv).toNat)
 case atStart=>
  have hs2:=HW2.out.2.size
  have hs1:=HM.out.2.size
  have ha:Below w2.heap.size w2 (w2.alloc (.cells #[.pointer (some ⟨w.heap.size+1,0,none⟩), .slice none 0 0] 141)):=(Below.refl _ _).alloc (Nat.le_refl _) _
  have h12a:Below w1.heap.size w1 (w2.alloc (.cells #[.pointer (some ⟨w.heap.size+1,0,none⟩), .slice none 0 0] 141)):=HW2.out.2.trans (ha.mono hs2)
  refine ⟨0,by omega,rfl,nilS,fun _=>0,⟨HM.out.2.trans (h12a.mono hs1),HM.out.1.keep (Keep.ofFresh h12a (B:=0) (F:=fun _=>False)) (fun q=>q) (fun q=>q),Blk.new w2 141 [.pointer (some ⟨w.heap.size+1,0,none⟩), .slice none 0 0],⟨rfl, .inl ⟨rfl,rfl⟩⟩,fun j hj=>by omega,fun j k hj=>by omega,by omega,fun k q=>by simp [nilS,Value.ownBlock] at q,fun j hj=>by omega⟩⟩
 case round=>
  obtain ⟨i,hi,rfl,v,buf,hI⟩:=hrel
  by_cases hin:i<n
  ·have hi8:i≤8:=by omega
   obtain ⟨A1,q1,hv⟩:=hI.row.slice
   subst hv
   have HG:=Lib.hid (busStage hI hi8 HH.out.1 HH.out.2)
   have y0:=hI.bus.cell 1
   simp only [List.getElem?_cons_zero,List.getElem?_cons_succ] at y0
   have hi0:(0:Int)≤(i:Int):=by omega
   have hi1:(i:Int)<(n:Int):=by omega
   clear hI
   go_upto_region 7 with fail
   go_region_law (first|(refine app_run_step rfl _ _ 139 139 rfl rfl rfl rfl HRUN.out ?_)|(go_simp;go_at_call 78;refine HG.out.mono ?_;rintro e x' ⟨a,rfl,A7,q7,w7,hr7,z0,za,z7,f7,HST⟩;have HRUN:=Lib.hid hr7;clear hr7;have HST:=Lib.hid HST))
   all_goals (
    obtain ⟨buf',h5⟩:=HST.out
    clear HRUN HST z0 za z7 f7
    have H5:=Lib.hid h5
    clear h5
    generalize w7.setCell ⟨w2.heap.size,1,none⟩ (Value.slice A7 (i+1) q7)=u5 at H5 ⊢
    go_wp2_with fail
    go_roundw
    case rel=>exact ⟨i+1,by omega,by go_num,_,_,H5.out⟩
    case measure=>simp [intOf];omega)
  ·have hin2:i=n:=by omega
   subst hin2
   have HF:=Lib.hid (hI.done hn hn8 HH.out.1 HH.out.2)
   clear hI
   go_wp2_with fail
   go_ret2
   obtain ⟨L,hL,hN⟩:=HF.out
   exact ⟨L,by rw [hL];rfl,hN⟩
theorem zero149:(Tryz.prog.info? 149).map (fun i=>(i.zero,i.size,i.bytes))=some (some (.agg #[.int .i64 0, .pointer none]),2,16):=by kernel_rfl
theorem under143:Tryz.prog.underlying 143=some (.slice 149):=by kernel_rfl
theorem xp_push (W:World) (v:Value) (n:Nat) (xs:List Value) (hn:n≤100) (h:RowZ W 149 2 v n xs) (a:Option Addr):
  ∃A7 q7 w7,(Builtin.append_ #[143,143] 143 #[v, .slice (some ⟨W.heap.size,0,none⟩) 1 1]).run Tryz.prog (W.alloc (.cells #[.int .i64 0, .pointer a] 149))= .ok (.slice A7 (n+1) q7) w7∧
   RowZ w7 149 2 (.slice A7 (n+1) q7) (n+1) (xs ++ [.int .i64 0, .pointer a])∧(W.alloc (.cells #[.int .i64 0, .pointer a] 149)).grownBy w7 v.ownBlock∧((Value.slice A7 (n+1) q7).ownBlock=v.ownBlock∨(Value.slice A7 (n+1) q7).ownBlock=some (W.alloc (.cells #[.int .i64 0, .pointer a] 149)).heap.size):=by
 obtain ⟨i0,hi,hzz⟩:=Option.map_eq_some_iff.1 zero149
 simp only [Prod.mk.injEq] at hzz
 obtain ⟨hz0,hz1,hz2⟩:=hzz
 have hb:Below W.heap.size W (W.alloc (.cells #[.int .i64 0, .pointer a] 149)):=(Below.refl _ _).alloc (Nat.le_refl _) _
 have n6:=Blk.new W 149 [.int .i64 0, .pointer a]
 obtain ⟨v7,w7,h1,h2,h3,h4⟩:=RowZ.append (P:=Tryz.prog) (W.alloc (.cells #[.int .i64 0, .pointer a] 149)) 143 143 149 i0 _ 2 16 under143 hi hz0 hz1 hz2 rfl (by decide) _ _ _ (h.move fun k q=>hb.block k (h.lt k q)) ⟨W.heap.size,0,none⟩ 1 1 [.int .i64 0, .pointer a] rfl
  (by intro j u hu;rw [add_lit,Nat.zero_add];exact (n6.cell j).trans hu) (by intro u hu;simp only [List.mem_cons,List.not_mem_nil,or_false] at hu;rcases hu with rfl|rfl<;>rfl) (by unfold maxLen;omega) (by omega)
 obtain ⟨A7,q7,hv⟩:=h2.slice
 subst hv
 exact ⟨A7,q7,w7,h1,h2,h3,h4⟩
def lanes (i:Nat) (f:Nat→Nat):List Value:=(List.range i).flatMap fun p=> [.int .i64 0,ptr (f p)]
theorem lanes_push (i:Nat) (f:Nat→Nat) (g:Nat):lanes (i+1) (upd f i g)=lanes i f ++ [.int .i64 0,ptr g]:=by
 unfold lanes
 rw [List.range_succ,List.flatMap_append]
 congr 1
 ·refine flat_congr _ _ _ (fun p hp=> ?_)
  rw [upd_other _ _ _ _ (by omega)]
 ·simp [upd_same]
structure BoxIn (w u:World) (i bx:Nat) (v:Value) (ln rm:Nat→Nat):Prop where
 b:Below w.heap.size w u
 box:Blk u bx 145 [v]
 row:RowZ u 149 2 v i (lanes i ln)
 lane:∀j,j<i→LaneOk u (ln j) (rm j)
 boxge:w.heap.size≤bx
 own:∀k,v.ownBlock=some k→w.heap.size≤k
 lge:∀j,j<i→w.heap.size≤ln j∧w.heap.size≤rm j
theorem boxStage {w u:World} {i bx:Nat} {v:Value} {lane room:Nat→Nat} (h:BoxIn w u i bx v lane room) (hi:i≤8):
  Calls Tryz.prog 80 #[.int .i64 16] u.drew fun e x'=>∃a,e= .returned (.pointer a)∧∃A7 q7 w7,(Builtin.append_ #[143,143] 143 #[v, .slice (some ⟨x'.heap.size,0,none⟩) 1 1]).run Tryz.prog (x'.alloc (.cells #[.int .i64 0, .pointer a] 149))= .ok (.slice A7 (i+1) q7) w7∧
   x'.cell? ⟨bx,0,none⟩=some v∧(x'.alloc (.cells #[.int .i64 0, .pointer a] 149)).cell? ⟨bx,0,none⟩=some v∧w7.cell? ⟨bx,0,none⟩=some v∧w7.frozen? ⟨bx,0,none⟩=false∧∃lane' room',BoxIn w (w7.setCell ⟨bx,0,none⟩ (.slice A7 (i+1) q7)) (i+1) bx (.slice A7 (i+1) q7) lane' room':=by
 refine (laneNew_any u.drew).mono ?_
 rintro e x ⟨rfl,hl,hbx,hsz⟩
 have hx:Below u.heap.size u x:=(Below.refl _ _).drew.trans hbx
 have hl:LaneOk x (u.heap.size+1) u.heap.size:=hl
 have hrow:=h.row.move (w':=x) fun k q=>hx.block k (h.row.lt k q)
 obtain ⟨A7,q7,w7,e1,e2,e3,e4⟩:=xp_push x v i _ (by omega) hrow (some ⟨u.heap.size+1,0,none⟩)
 have ha:Below x.heap.size x (x.alloc (.cells #[.int .i64 0, .pointer (some ⟨u.heap.size+1,0,none⟩)] 149)):=(Below.refl _ _).alloc (Nat.le_refl _) _
 have hua:Below u.heap.size u (x.alloc (.cells #[.int .i64 0, .pointer (some ⟨u.heap.size+1,0,none⟩)] 149)):=hx.trans (ha.mono hx.size)
 have kf:∀ {a b:World} (hb:Below a.heap.size a b),Keep (fun _=>False) a b:=fun hb=>Keep.ofFresh hb (B:=0)
 have kg:=Keep.grown e3
 have bx1:=h.box.keep (kf hx) (fun q=>q)
 have ba:=h.box.keep (kf hua) (fun q=>q)
 have b7:=ba.keep kg (fun q=>h.row.ne h.box (by decide) q)
 have hlv:∀k,v.ownBlock=some k→k<u.heap.size:=fun k q=>h.row.lt k q
 have hsa:x.heap.size<(x.alloc (.cells #[.int .i64 0, .pointer (some ⟨u.heap.size+1,0,none⟩)] 149)).heap.size:=by simp
 have hsx:=hx.size
 have hsb:=h.b.size
 have hset:Keep (fun k=>k=bx) w7 (w7.setCell ⟨bx,0,none⟩ (.slice A7 (i+1) q7)):=Keep.setCell (F:=fun k=>k=bx) (p:=⟨bx,0,none⟩) (Keep.refl _ _) (fun _=>rfl) _
 have laneTy:∀ {z:World} {l r:Nat},LaneOk z l r→∃c1 c2,Blk z l 188 c1∧Blk z r 3 c2:=fun h=>by
  obtain ⟨f,hh,H⟩:=h
  obtain ⟨xs,hx,_⟩:=H.row
  exact ⟨_,_,H.blk,hx⟩
 have hN:LaneOk w7 (u.heap.size+1) u.heap.size:=(hl.keep (kf ha) (fun q=>q) (fun q=>q)).keep kg (fun q=>by have:=hlv _ q;omega) (fun q=>by have:=hlv _ q;omega)
 have hB:∀j,j<i→LaneOk w7 (lane j) (room j):=fun j hj=>by
  obtain ⟨c1,c2,d1,d2⟩:=laneTy (h.lane j hj)
  exact ((h.lane j hj).keep (kf hua) (fun q=>q) (fun q=>q)).keep kg (fun q=>h.row.ne d1 (by decide) q) (fun q=>h.row.ne d2 (by decide) q)
 have hfar:∀l r,LaneOk w7 l r→LaneOk (w7.setCell ⟨bx,0,none⟩ (.slice A7 (i+1) q7)) l r:=fun l r hh=>by
  obtain ⟨c1,c2,d1,d2⟩:=laneTy hh
  exact hh.keep hset (fun q=>d1.ne b7 (by decide) q) (fun q=>d2.ne b7 (by decide) q)
 have kw:Below w.heap.size w w7:=by
  have:=h.b.trans (hua.mono hsb)
  refine this.trans (Keep.toBelow (kg.mono (fun k _ q=>h.own k q)) this.size)
 rw [show Value.pointer (some ⟨u.heap.size+1,0,none⟩)=ptr (u.heap.size+1) from rfl, ←lanes_push] at e2
 refine ⟨_,rfl,A7,q7,w7,e1,bx1.cell 0,ba.cell 0,b7.cell 0,b7.free 0,upd lane i (u.heap.size+1),upd room i u.heap.size, ?_⟩
 refine ⟨kw.trans (Keep.toBelow (hset.mono (fun k _ q=>by rw [q];exact h.boxge)) kw.size),b7.set 0 _,e2.far b7 (by decide) _ _,fun j hj=> ?_,h.boxge,fun k q=> ?_,fun j hj=> ?_⟩
 ·by_cases ej:j=i
  ·subst ej;rw [upd_same,upd_same];exact hfar _ _ hN
  ·rw [upd_other _ _ _ _ ej,upd_other _ _ _ _ ej];exact hfar _ _ (hB j (by omega))
 ·rcases e4 with e5|e5
  ·rw [e5] at q;exact h.own k q
  ·rw [e5] at q
   injection q with q
   omega
 ·by_cases ej:j=i
  ·subst ej;rw [upd_same,upd_same];omega
  ·rw [upd_other _ _ _ _ ej,upd_other _ _ _ _ ej];exact h.lge j (by omega)
structure BoxNew (w w':World) (X:BoxL) (n:Nat):Prop where
 at_:BoxAt w' X n
 b:Below w.heap.size w w'
 ge:w.heap.size≤X.box∧w.heap.size≤X.all∧∀j,j<n→w.heap.size≤X.lane j∧w.heap.size≤X.room j
theorem BoxIn.done {w u:World} {n bx:Nat} {v:Value} {lane room:Nat→Nat} (h:BoxIn w u n bx v lane room) (hn:1≤n) (hn8:n≤8):∃X:BoxL,X.box=bx∧BoxNew w u X n:=by
 obtain ⟨g,c,hv,hc,⟨cur,hcur⟩,hcell⟩:=h.row.cells (by omega)
 have hg:w.heap.size≤g:=h.own g (by rw [hv];rfl)
 refine ⟨⟨bx,g,c,lane,room⟩,rfl,⟨⟨by have:=h.box;rw [hv] at this;exact this,⟨cur,hcur,fun i hi=> ?_⟩,h.lane,hn8⟩,h.b,h.boxge,hg,h.lge⟩⟩
 have c0:=(hcell (i*2) (by omega)).1
 have c1:=(hcell (i*2+1) (by omega)).1
 rw [hcur.cell] at c0 c1
 have f0:=flat_get (fun p=> [Value.int .i64 0,ptr (lane p)]) 2 (fun _=>rfl) hi (show 0<2 by omega)
 have f1:=flat_get (fun p=> [Value.int .i64 0,ptr (lane p)]) 2 (fun _=>rfl) hi (show 1<2 by omega)
 exact ⟨⟨0,c0.trans f0⟩,c1.trans f1⟩
set_option maxHeartbeats 2000000 in
set_option maxRecDepth 100000 in
theorem boxNew_any (n:Nat) (hn:1≤n) (hn8:n≤8) (w:World):
  Calls Tryz.prog 40 #[.int .i64 n] w fun e w'=>∃X:BoxL,e= .returned (.pointer (some ⟨X.box,0,none⟩))∧BoxNew w w' X n:=by
 have e1:decide ((n:Int)<1)=false:=by simp;omega
 have e2:decide ((8:Int)<n)=false:=by simp;omega
 go_enter Tryz.func40,Tryz.ntmps40
 go_wp2_with fail
 go_loopw [13] (fun jv u=>∃i:Nat,i≤n∧jv= .int .i64 i∧∃v lane room,BoxIn w u i w.heap.size v lane room)
  (fun jv _=>n-(intOf jv).toNat)
 case atStart=>
  exact ⟨0,by omega,rfl,nilS,fun _=>0,fun _=>0,⟨(Below.refl _ _).alloc (Nat.le_refl _) _,Blk.new w 145 [.slice none 0 0],⟨rfl, .inl ⟨rfl,rfl⟩⟩,fun j hj=>by omega,Nat.le_refl _,fun k q=>by simp [nilS,Value.ownBlock] at q,fun j hj=>by omega⟩⟩
 case round=>
  obtain ⟨i,hi,rfl,v,lane,room,hI⟩:=hrel
  by_cases hin:i<n
  ·have hi8:i≤8:=by omega
   obtain ⟨A1,q1,hv⟩:=hI.row.slice
   subst hv
   have HG:=Lib.hid (boxStage hI hi8)
   have y0:=hI.box.cell 0
   simp only [List.getElem?_cons_zero,List.getElem?_cons_succ] at y0
   have hi0:(0:Int)≤(i:Int):=by omega
   have hi1:(i:Int)<(n:Int):=by omega
   clear hI
   go_upto_region 6 with fail
   go_region_law (first|(refine app_run_step rfl _ _ 143 143 rfl rfl rfl rfl HRUN.out ?_)|(go_simp;go_at_call 80;refine HG.out.mono ?_;rintro e x' ⟨a,rfl,A7,q7,w7,hr7,z0,za,z7,f7,HST⟩;have HRUN:=Lib.hid hr7;clear hr7;have HST:=Lib.hid HST))
   all_goals (
    obtain ⟨lane',room',h5⟩:=HST.out
    clear HRUN HST z0 za z7 f7
    have H5:=Lib.hid h5
    clear h5
    generalize w7.setCell ⟨w.heap.size,0,none⟩ (Value.slice A7 (i+1) q7)=u5 at H5 ⊢
    go_wp2_with fail
    go_roundw
    case rel=>exact ⟨i+1,by omega,by go_num,_,_,_,H5.out⟩
    case measure=>simp [intOf];omega)
  ·have hin2:i=n:=by omega
   subst hin2
   have HF:=Lib.hid (hI.done hn hn8)
   clear hI
   go_wp2_with fail
   go_ret
   obtain ⟨X,hX,hN⟩:=HF.out
   exact ⟨X,by rw [hX];rfl,hN⟩
structure SocNew (w w':World) (S:SocL) (n W most:Nat):Prop where
 at_:SocAt w' S n W most (fun _=>nilS) (fun _=>0) (fun _=> []) (Gates.newGt n)
 b:Below w.heap.size w w'
 ge:∀k,SocAll S n (fun _=>nilS) k→w.heap.size≤k
set_option maxHeartbeats 2000000 in
set_option maxRecDepth 100000 in
theorem socNew_any (n W most:Nat) (hn:1≤n) (hn8:n≤8) (hW:1≤W) (hW2:W≤65536) (h1:1≤most) (h2:most≤16) (w:World):
  Calls Tryz.prog 18 #[.agg #[.int .i64 n, .int .i64 W, .int .i64 1], .int .i64 most] w fun e w'=>∃S:SocL,e= .returned (.tuple #[.pointer (some ⟨S.soc,0,none⟩), .int .i64 0])∧SocNew w w' S n W most:=by
 obtain ⟨w1,hw1⟩:∃w1,w1=w.alloc (.cells #[.int .i64 (n:Int), .int .i64 (W:Int), .int .i64 1] 62):=⟨_,rfl⟩
 have hk:Blk w1 w.heap.size 62 [.int .i64 (n:Int), .int .i64 (W:Int), .int .i64 1]:=by rw [hw1];exact Blk.new _ _ _
 have hb:Below w.heap.size w w1:=by rw [hw1];exact (Below.refl _ _).alloc (Nat.le_refl _) _
 have c0:=hk.cell 0
 have c1:=hk.cell 1
 have c2:=hk.cell 2
 simp only [List.getElem?_cons_zero,List.getElem?_cons_succ] at c0 c1 c2
 have HW:=Lib.hid hw1
 have HK:=Lib.hid (And.intro hk hb)
 have HB:=Lib.hid (busNew_any n W most hn hn8 hW hW2 h1 h2 w1)
 have HS:=Lib.hid (fun u=>siteRight_yes n W hn hn8 hW hW2 u)
 have HX:=Lib.hid (fun u=>boxNew_any n hn hn8 u)
 have HL:=Lib.hid (fun u=>Banks.new_yes (n:Int) 1 u ⟨by omega,by omega,by omega,by omega⟩)
 have HG:=Lib.hid (fun u=>Gates.new_yes (n:Int) u ⟨by omega,by omega⟩)
 have HN:=Lib.hid (And.intro hn (And.intro hn8 (And.intro hW hW2)))
 clear hw1 hk hb hn hn8 hW hW2
 go_enter Tryz.func18,Tryz.ntmps18
 go_wp2_with fail
 rw [←HW.out]
 go_wp2_with fail
 refine HB.out.mono ?_
 rintro e w2 ⟨L,rfl,hbus⟩
 have hk2:=HK.out.1.keep (Keep.ofFresh hbus.b (B:=0) (F:=fun _=>False)) (fun q=>q)
 have d0:=hk2.cell 0
 have d1:=hk2.cell 1
 have d2:=hk2.cell 2
 simp only [List.getElem?_cons_zero,List.getElem?_cons_succ] at d0 d1 d2
 have HBU:=Lib.hid (And.intro hbus hk2)
 clear hbus hk2 c0 c1 c2
 go_wp2_with fail
 refine (HS.out _).mono ?_
 rintro e w3 ⟨rfl,hb3⟩
 have hk3:=HBU.out.2.keep (Keep.ofFresh hb3 (B:=0) (F:=fun _=>False)) (fun q=>q)
 have HB3:=Lib.hid (And.intro hb3 hk3)
 have hS:w3.cell? ⟨w.heap.size,0,none⟩=some (.int .i64 (n:Int))∧w3.cell? ⟨w.heap.size,1,none⟩=some (.int .i64 (W:Int))∧w3.cell? ⟨w.heap.size,2,none⟩=some (.int .i64 1):=⟨hk3.cell 0,hk3.cell 1,hk3.cell 2⟩
 have hX:∀u,Below w3.heap.size w3 u→Calls Tryz.prog 40 #[.int .i64 (n:Int)] u fun e w4=>∃X:BoxL,e= .returned (.pointer (some ⟨X.box,0,none⟩))∧(BoxNew u w4 X n∧Below w3.heap.size w3 u∧Below w3.heap.size w3 w4)∧w4.cell? ⟨w.heap.size,0,none⟩=some (.int .i64 (n:Int))∧w4.cell? ⟨w.heap.size,1,none⟩=some (.int .i64 (W:Int))∧w4.cell? ⟨w.heap.size,2,none⟩=some (.int .i64 1):=by
  intro u hu
  refine (HX.out u).mono ?_
  rintro e w4 ⟨X,rfl,hN⟩
  have hb34:=hu.trans (hN.b.mono hu.size)
  have hk4:=hk3.keep (Keep.ofFresh hb34 (B:=0) (F:=fun _=>False)) (fun q=>q)
  exact ⟨X,rfl,⟨hN,hu,hb34⟩,hk4.cell 0,hk4.cell 1,hk4.cell 2⟩
 have hL:∀u,Below w3.heap.size w3 u→Calls Tryz.prog 41 #[.int .i64 (n:Int), .int .i64 1] u fun e w4=>∃l:Nat,e= .returned (.pointer (some ⟨l,0,none⟩))∧(Banks.At w4 l (Banks.newBk n 1)∧w3.heap.size≤l∧Below u.heap.size u w4∧Below w3.heap.size w3 w4)∧w4.cell? ⟨w.heap.size,0,none⟩=some (.int .i64 (n:Int))∧w4.cell? ⟨w.heap.size,1,none⟩=some (.int .i64 (W:Int))∧w4.cell? ⟨w.heap.size,2,none⟩=some (.int .i64 1):=by
  intro u hu
  refine (HL.out u).mono ?_
  rintro e w4 ⟨rfl,h3,h4,h5⟩
  have hb34:=hu.trans (h4.mono hu.size)
  have hk4:=hk3.keep (Keep.ofFresh hb34 (B:=0) (F:=fun _=>False)) (fun q=>q)
  exact ⟨_,rfl,⟨h3,hu.size,h4,hb34⟩,hk4.cell 0,hk4.cell 1,hk4.cell 2⟩
 have hG:∀u,Below w3.heap.size w3 u→Calls Tryz.prog 42 #[.int .i64 (n:Int)] u fun e w4=>∃l:Nat,e= .returned (.pointer (some ⟨l,0,none⟩))∧(Gates.At w4 l (Gates.newGt n)∧w3.heap.size≤l∧Below u.heap.size u w4∧Below w3.heap.size w3 w4)∧w4.cell? ⟨w.heap.size,0,none⟩=some (.int .i64 (n:Int))∧w4.cell? ⟨w.heap.size,1,none⟩=some (.int .i64 (W:Int))∧w4.cell? ⟨w.heap.size,2,none⟩=some (.int .i64 1):=by
  intro u hu
  refine (HG.out u).mono ?_
  rintro e w4 ⟨rfl,h3,h4,h5⟩
  have hb34:=hu.trans (h4.mono hu.size)
  have hk4:=hk3.keep (Keep.ofFresh hb34 (B:=0) (F:=fun _=>False)) (fun q=>q)
  exact ⟨_,rfl,⟨h3,hu.size,h4,hb34⟩,hk4.cell 0,hk4.cell 1,hk4.cell 2⟩
 have HXX:=Lib.hid hX
 have HLL:=Lib.hid hL
 have HGG:=Lib.hid hG
 clear hX hL hG hk3 hb3 d0 d1 d2
 go_upto_region 4 with fail
 go_region_held3 (fun u=>u.cell? ⟨w.heap.size,0,none⟩=some (.int .i64 (n:Int))∧u.cell? ⟨w.heap.size,1,none⟩=some (.int .i64 (W:Int))∧u.cell? ⟨w.heap.size,2,none⟩=some (.int .i64 1)) (first|exact hS|assumption|exact ⟨cell_alloc hS6.1,cell_alloc hS6.2.1,cell_alloc hS6.2.2⟩)
  (first|(go_at_call 40;refine (HXX.out _ (by first|exact Below.refl _ _|exact (Below.refl _ _).drew)).mono ?_;rintro e w4 ⟨X,rfl,hN4,hS4⟩;have hN4:=Lib.hid hN4)|(go_at_call 41;refine (HLL.out _ hN4.out.2.2).mono ?_;rintro e w5 ⟨l5,rfl,hN5,hS5⟩;have hN5:=Lib.hid hN5)|(go_at_call 42;refine (HGG.out _ hN5.out.2.2.2).mono ?_;rintro e w6 ⟨l6,rfl,hN6,hS6⟩;have hN6:=Lib.hid hN6))
 have hlt:∀ {a b:World},Below a.heap.size a b→Keep (fun _=>False) a b:=fun hb=>Keep.ofFresh hb (B:=0)
 have h67:Below w6.heap.size w6 (w6.alloc (.cells [.int .i64 (n:Int), .int .i64 (W:Int), .int .i64 1, .pointer (some ⟨L.bus,0,none⟩), .pointer (some ⟨X.box,0,none⟩), .pointer (some ⟨l5,0,none⟩), .pointer (some ⟨l6,0,none⟩)].toArray 103)):=(Below.refl _ _).alloc (Nat.le_refl _) _
 have hsoc:=Blk.new w6 103 [.int .i64 (n:Int), .int .i64 (W:Int), .int .i64 1, .pointer (some ⟨L.bus,0,none⟩), .pointer (some ⟨X.box,0,none⟩), .pointer (some ⟨l5,0,none⟩), .pointer (some ⟨l6,0,none⟩)]
 have h36:Below w3.heap.size w3 w6:=hN6.out.2.2.2
 have h56:Below w5.heap.size w5 w6:=hN6.out.2.2.1
 have h45:Below w4.heap.size w4 w5:=hN5.out.2.2.1
 have h57:=h56.trans (h67.mono h56.size)
 have h47:=h45.trans (h57.mono h45.size)
 have h23:Below w2.heap.size w2 w3:=HB3.out.1
 have h37:=h36.trans (h67.mono h36.size)
 have h27:=h23.trans (h37.mono h23.size)
 have h12:Below w1.heap.size w1 w2:=HBU.out.1.b
 have h17:=h12.trans (h27.mono h12.size)
 have h01:=HK.out.2
 have h07:=h01.trans (h17.mono h01.size)
 have hbus:=HBU.out.1.at_.fresh h27
 have hbox:=hN4.out.1.at_.fresh h47
 have hloc:Banks.At _ l5 (Banks.newBk n 1):=Blk.keep (cs:=(Banks.newBk n 1).cells) hN5.out.1 (hlt h57) (fun q=>q)
 have hgat:Gates.At _ l6 (Gates.newGt n):=Blk.keep (cs:=(Gates.newGt n).cells) hN6.out.1 (hlt h67) (fun q=>q)
 have s01:=h01.size
 have s12:=h12.size
 have s23:=h23.size
 have s36:=h36.size
 have s34:=hN4.out.2.1.size
 have gl5:w3.heap.size≤l5:=hN5.out.2.1
 have gl6:w3.heap.size≤l6:=hN6.out.2.1
 have gB:=HBU.out.1.ge
 have gR:=HBU.out.1.row
 have gX:=hN4.out.1.ge
 have rowlt:L.row<w2.heap.size:=HBU.out.1.at_.ram.row.lt
 have hSA:SocAt _ ⟨w6.heap.size,l5,l6,L,X⟩ n W most (fun _=>nilS) (fun _=>0) (fun _=> []) (Gates.newGt n):=
  ⟨hsoc,hbus,hbox,⟨_,hloc,Banks.newBk_ok ⟨by have:=HN.out.1;omega,by have:=HN.out.2.1;omega,by omega,by omega⟩,rfl⟩,hgat,Gates.newGt_ok ⟨by have:=HN.out.1;omega,by have:=HN.out.2.1;omega⟩,rfl,HN.out.1,HN.out.2.2.1,fun i hi e=>by have e:X.room i=L.row:=e;have:=(gX.2.2 i hi).2;omega⟩
 have hGE:∀k,SocAll ⟨w6.heap.size,l5,l6,L,X⟩ n (fun _=>nilS) k→w.heap.size≤k:=by
  rintro k (q|q|q|q|q|q|q|⟨c,hc,q|q|q⟩|q|⟨c,hc,q|q⟩)
  ·have q:k=w6.heap.size:=q;omega
  ·have q:k=L.bus:=q;have:=gB.1;omega
  ·have q:k=L.ram:=q;have:=gB.2.1;omega
  ·have q:k=L.bufs:=q;have:=gB.2.2.1;omega
  ·have q:k=X.box:=q;have:=gX.1;omega
  ·have q:k=l5:=q;omega
  ·have q:k=l6:=q;omega
  ·have q:k=L.row:=q;omega
  ·have q:k=L.buf c:=q;have:=gB.2.2.2 c hc;omega
  ·simp [nilS,Value.ownBlock] at q
  ·have q:k=X.all:=q;have:=gX.2.1;omega
  ·have q:k=X.lane c:=q;have:=(gX.2.2 c hc).1;omega
  ·have q:k=X.room c:=q;have:=(gX.2.2 c hc).2;omega
 have HFIN:=Lib.hid (⟨hSA,h07,hGE⟩:SocNew w _ ⟨w6.heap.size,l5,l6,L,X⟩ n W most)
 clear hSA h07 hGE hbus hbox hloc hgat hsoc h67 h57 h47 h37 h27 h17 gX gB
 go_wp2_with fail
 go_ret2
 exact ⟨⟨w6.heap.size,l5,l6,L,X⟩,rfl,HFIN.out⟩
end Go.Proofs.YtaaffebnajjfhaaGreatDoor.T
