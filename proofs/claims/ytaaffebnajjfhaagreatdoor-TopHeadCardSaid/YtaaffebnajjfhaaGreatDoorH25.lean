/- Texts of this proof, merged: BoardB, BoardC, BoardD, BoardE, BoardF, BoardG, BoardH. -/
import Derived.Test.YtaaffebnajjfhaaGreatDoorH23
import Derived.Test.YtaaffebnajjfhaaGreatDoorH24
namespace Go.Proofs.YtaaffebnajjfhaaGreatDoor.T
set_option linter.unusedVariables false
set_option linter.unusedSimpArgs false
set_option linter.unusedSectionVars false
open Go.RowKit
namespace Bd
def ep (b:Bd) (c:Nat):Nat:=(b.sc.g.eps.getD c 0).toNat
def upb (b:Bd) (c:Nat):Bool:= !(b.sc.g.held.getD c false)
def av (b:Bd) (i j:Nat):List GV:=(sts b.sc.m (b.sc.q i)).map (gview (chanBase b.n b.ring i j) b.ring)
def bv (b:Bd) (i j:Nat):List TV:=(sts b.sc.m (b.sc.q j)).map (tview (chanBase b.n b.ring i j) b.ring)
def Ch (b:Bd) (i j:Nat) (pi:List Rec) (ci:Option Rec) (pj:List Rec) (cj:Option Rec):Prop:=
 ∃G,Jn b.now b.ring (b.ep i) (b.ep j) (b.upb i) (b.upb j) ((b.cor i).giv j) ((b.cor j).tak i) (b.av i j) (b.bv i j) G∧
  Dg i j (b.ep i) (b.ep j) (b.upb i) (b.upb j) ((b.cor i).giv j) ((b.cor j).tak i) G pi ci pj cj
def Ran (b:Bd) (c:Nat) (ci:Option Rec):Prop:=
 match (b.cor c).runs with
 | none=>ci=none
 | some (.giv p)=>b.upb c=true∧p<b.n∧p≠c∧(b.cor c).entry<b.diary.length∧∃x,ci=some x∧x.ofG p
 | some (.tak p)=>b.upb c=true∧p<b.n∧p≠c∧(b.cor c).entry<b.diary.length∧∃x,ci=some x∧x.ofT p
end Bd
structure Mach (b:Bd) (c p:Nat):Prop where
 giv:((b.cor c).giv p).Ok b.n (chanWords b.n b.ring)
 gbase:((b.cor c).giv p).base=chanBase b.n b.ring c p
 gring:((b.cor c).giv p).ring=b.ring
 gpeer:((b.cor c).giv p).peer=p
 tak:((b.cor c).tak p).Ok b.n (chanWords b.n b.ring)
 tbase:((b.cor c).tak p).base=chanBase b.n b.ring p c
 tring:((b.cor c).tak p).ring=b.ring
 tpeer:((b.cor c).tak p).peer=p
 gens:∀x∈((b.cor c).tak p).tab.gens,x≤(b.now:Int)
structure BI (b:Bd) (P:Nat→List Rec) (C:Nat→Option Rec):Prop where
 n2:2≤b.n
 n8:b.n≤8
 words:chanWords b.n b.ring≤65536
 r1:1≤b.ring
 r64:b.ring≤64
 gok:b.sc.g.Ok
 cores:b.sc.g.cores=b.n
 wrd:∀a,b.sc.m a<65536
 wq:∀c,c<b.n→∀y∈b.sc.q c,ownW b.n b.ring c y.1∧y.2<65536
 ch:∀i j,i<b.n→j<b.n→i≠j→b.Ch i j (P i) (C i) (P j) (C j)
 mach:∀c p,c<b.n→p<b.n→p≠c→b.upb c=true→Mach b c p
 ran:∀c,c<b.n→b.Ran c (C c)
 fin:∀c,c<b.n→∀x,C c=some x→x.fin=false∧(x.kind=1∨x.kind=2∨x.kind=3)
theorem ofG_ofT {x:Rec} {i j:Nat} (h:x.ofG j) (h':x.ofT i):False:=by
 have h1:=h.1
 rcases h'.1 with q|q<;>omega
section
variable {b:Bd} {P:Nat→List Rec} {C:Nat→Option Rec}
theorem BI.tick (h:BI b P C):BI { b with now:=b.now+1 } P C:=by
 refine ⟨h.n2,h.n8,h.words,h.r1,h.r64,h.gok,h.cores,h.wrd,h.wq,fun i j hi hj hij=> ?_,fun c p hc hp hpc hu=> ?_,h.ran,h.fin⟩
 ·obtain ⟨G,h1,h2⟩:=h.ch i j hi hj hij
  exact ⟨G,h1.more _ (Nat.le_succ _),h2⟩
 ·obtain ⟨m1,m2,m3,m4,m5,m6,m7,m8,m9⟩:=h.mach c p hc hp hpc hu
  exact ⟨m1,m2,m3,m4,m5,m6,m7,m8,fun x hx=>by have:=m9 x hx;show x≤((b.now+1:Nat):Int);omega⟩
theorem ep_of (h:BI b P C) {c:Nat} (hc:c<b.n):b.sc.g.eps.getD c 0=(b.ep c:Int):=by
 have h8:=h.n8
 have:=h.gok.get c (by omega)
 unfold Bd.ep
 omega
theorem notG_of (h:BI b P C) {c i j:Nat} (hc:c<b.n) (hi:i<b.n) (hj:j<b.n) (hij:i≠j) (hne:i≠c):∀y∈b.sc.q c, ¬isG (chanBase b.n b.ring i j) b.ring y.1:=
 fun y hy=>own_notG hc hi hj hij (h.wq c hc y hy).1 (Ne.symm hne)
theorem notT_of (h:BI b P C) {c i j:Nat} (hc:c<b.n) (hi:i<b.n) (hj:j<b.n) (hij:i≠j) (hne:j≠c):∀y∈b.sc.q c, ¬isT (chanBase b.n b.ring i j) b.ring y.1:=
 fun y hy=>own_notT hc hi hj hij (h.wq c hc y hy).1 (Ne.symm hne)
theorem Ch_same {b':Bd} {i j:Nat} {pi pj:List Rec} {ci cj:Option Rec} (h:b.Ch i j pi ci pj cj) (hn:b'.n=b.n) (hr:b'.ring=b.ring) (hnow:b.now≤b'.now) (hei:b'.ep i=b.ep i) (hej:b'.ep j=b.ep j) (hui:b'.upb i=b.upb i) (huj:b'.upb j=b.upb j)
  (hci:(b'.cor i).giv j=(b.cor i).giv j) (hcj:(b'.cor j).tak i=(b.cor j).tak i) (ha:b'.av i j=b.av i j) (hb:b'.bv i j=b.bv i j):b'.Ch i j pi ci pj cj:=by
 obtain ⟨G,h1,h2⟩:=h
 refine ⟨G, ?_, ?_⟩
 ·rw [hr,hei,hej,hui,huj,hci,hcj,ha,hb];exact h1.more _ hnow
 ·rw [hei,hej,hui,huj,hci,hcj];exact h2
theorem av_tch (h:BI b P C) {c i j:Nat} (hc:c<b.n) (hi:i<b.n) (hj:j<b.n) (hij:i≠j) (hne:i≠c) (t:Tch):
  (sts (b.sc.tch b.most c t).1.m ((b.sc.tch b.most c t).1.q i)).map (gview (chanBase b.n b.ring i j) b.ring)=b.av i j:=
 tch_foreign (gview_looks _ _) hne (notG_of h hc hi hj hij hne) t
theorem bv_tch (h:BI b P C) {c i j:Nat} (hc:c<b.n) (hi:i<b.n) (hj:j<b.n) (hij:i≠j) (hne:j≠c) (t:Tch):
  (sts (b.sc.tch b.most c t).1.m ((b.sc.tch b.most c t).1.q j)).map (tview (chanBase b.n b.ring i j) b.ring)=b.bv i j:=
 tch_foreign (tview_looks _ _) hne (notT_of h hc hi hj hij hne) t
theorem tch_rng (h:BI b P C) {c:Nat} (hc:c<b.n) (t:Tch):0≤(b.sc.tch b.most c t).2∧(b.sc.tch b.most c t).2<65536:=by
 have h8:=h.n8
 cases t with
 | ld a=>
  show (0:Int)≤(seen b.sc.m (b.sc.q c) a:Nat)∧((seen b.sc.m (b.sc.q c) a:Nat):Int)<65536
  have:seen b.sc.m (b.sc.q c) a<65536:=by
   unfold seen lastOf
   cases hf:(b.sc.q c).reverse.find? (fun x=>x.1 == a) with
   | none=>exact h.wrd a
   | some y=>exact (h.wq c hc y (List.mem_reverse.1 (List.mem_of_find?_eq_some hf))).2
  omega
 | ep d=>
  show 0≤b.sc.g.eps.getD d 0∧b.sc.g.eps.getD d 0<65536
  by_cases hd:d<8
  ·have:=h.gok.get d hd;omega
  ·rw [List.getD_eq_getElem?_getD,List.getElem?_eq_none (by rw [h.gok.le];omega)];simp
 | kick d=>simp [Sc.tch]
 | fence=>simp [Sc.tch]
 | st a x=>simp [Sc.tch]
theorem giv_reads (h:BI b P C) {c p:Nat} (hc:c<b.n) (hp:p<b.n) (hpc:p≠c) (hu:b.upb c=true) (h0:((b.cor c).giv p).pc≠0) (hst:((b.cor c).giv p).stores=false):
  (((b.cor c).giv p).pc=1∨((b.cor c).giv p).pc=15→(b.sc.tch b.most c ((b.cor c).giv p).tch).2=(b.ep p:Int))∧
  (((b.cor c).giv p).pc=5→(b.sc.tch b.most c ((b.cor c).giv p).tch).2=((tview (chanBase b.n b.ring c p) b.ring b.sc.m).ce:Int))∧
  (((b.cor c).giv p).pc=6→(b.sc.tch b.most c ((b.cor c).giv p).tch).2=((tview (chanBase b.n b.ring c p) b.ring b.sc.m).ui:Int))∧
  (((b.cor c).giv p).pc=7→(b.sc.tch b.most c ((b.cor c).giv p).tch).2=((tview (chanBase b.n b.ring c p) b.ring b.sc.m).used (((b.cor c).giv p).tail%b.ring):Int)):=by
 have hm:=h.mach c p hc hp hpc hu
 have hnt:=notT_of h (i:=c) (j:=p) hc hc hp (Ne.symm hpc) hpc
 have hsee:∀a,isT (chanBase b.n b.ring c p) b.ring a→seen b.sc.m (b.sc.q c) a=b.sc.m a:=fun a ha=>seen_other (fun y hy e=>hnt y hy (e ▸ ha)) _
 have hr1:=h.r1
 have e1:=hm.gbase
 have e2:=hm.gring
 have e3:=hm.gpeer
 have hep:=ep_of h hp
 rcases Giv.tch_quiet _ hst h0 hm.giv.pc with ⟨q,r⟩|⟨q,r⟩|⟨q,r⟩|⟨q,r⟩|⟨q,r⟩
 ·rw [r]
  refine ⟨fun _=> ?_,fun _=>by omega,fun _=>by omega,fun _=>by omega⟩
  show b.sc.g.eps.getD _ 0=_
  rw [e3];exact hep
 ·rw [r]
  refine ⟨fun _=>by omega,fun _=> ?_,fun _=>by omega,fun _=>by omega⟩
  show ((seen b.sc.m (b.sc.q c) _:Nat):Int)=_
  rw [e1,hsee _ (.inl rfl)];rfl
 ·rw [r]
  refine ⟨fun _=>by omega,fun _=>by omega,fun _=> ?_,fun _=>by omega⟩
  show ((seen b.sc.m (b.sc.q c) _:Nat):Int)=_
  rw [e1,hsee _ (.inr (.inl rfl))];rfl
 ·rw [r]
  refine ⟨fun _=>by omega,fun _=>by omega,fun _=>by omega,fun _=> ?_⟩
  show ((seen b.sc.m (b.sc.q c) _:Nat):Int)=_
  have hlt:((b.cor c).giv p).tail%b.ring<b.ring:=Nat.mod_lt _ (by omega)
  rw [e1,e2]
  generalize ((b.cor c).giv p).tail%b.ring=x at *
  rw [hsee _ (by unfold isT;omega)]
  unfold tview
  simp only [hlt,if_true]
 ·exact ⟨fun _=>by omega,fun _=>by omega,fun _=>by omega,fun _=>by omega⟩
theorem tak_reads (h:BI b P C) {c p:Nat} (hc:c<b.n) (hp:p<b.n) (hpc:p≠c) (hu:b.upb c=true) (h0:((b.cor c).tak p).pc≠0) (hst:((b.cor c).tak p).stores=false):
  (((b.cor c).tak p).pc=1∨((b.cor c).tak p).pc=14→(b.sc.tch b.most c ((b.cor c).tak p).tch).2=(b.ep p:Int))∧
  (((b.cor c).tak p).pc=5→(b.sc.tch b.most c ((b.cor c).tak p).tch).2=((gview (chanBase b.n b.ring p c) b.ring b.sc.m).pe:Int))∧
  (((b.cor c).tak p).pc=6→(b.sc.tch b.most c ((b.cor c).tak p).tch).2=((gview (chanBase b.n b.ring p c) b.ring b.sc.m).ai:Int))∧
  (((b.cor c).tak p).pc=7→(b.sc.tch b.most c ((b.cor c).tak p).tch).2=((gview (chanBase b.n b.ring p c) b.ring b.sc.m).avail (((b.cor c).tak p).head%b.ring):Int))∧
  (((b.cor c).tak p).pc=8→(b.sc.tch b.most c ((b.cor c).tak p).tch).2=((gview (chanBase b.n b.ring p c) b.ring b.sc.m).len ((b.cor c).tak p).d:Int))∧
  (((b.cor c).tak p).pc=9→(b.sc.tch b.most c ((b.cor c).tak p).tch).2=((gview (chanBase b.n b.ring p c) b.ring b.sc.m).load ((b.cor c).tak p).d ((b.cor c).tak p).load.length:Int)):=by
 have hm:=h.mach c p hc hp hpc hu
 have hnt:=notG_of h (i:=p) (j:=c) hc hp hc hpc hpc
 have hsee:∀a,isG (chanBase b.n b.ring p c) b.ring a→seen b.sc.m (b.sc.q c) a=b.sc.m a:=fun a ha=>seen_other (fun y hy e=>hnt y hy (e ▸ ha)) _
 have hr1:=h.r1
 have e1:=hm.tbase
 have e2:=hm.tring
 have e3:=hm.tpeer
 have hep:=ep_of h hp
 have hd8:=hm.tak.d8
 have hw9:=hm.tak.word9
 have hmany:=hm.tak.many
 rcases Tak.tch_quiet _ hst h0 hm.tak.pc with ⟨q,r⟩|⟨q,r⟩|⟨q,r⟩|⟨q,r⟩|⟨q,r⟩|⟨q,r⟩|⟨q,r⟩
 ·rw [r]
  refine ⟨fun _=> ?_,fun _=>by omega,fun _=>by omega,fun _=>by omega,fun _=>by omega,fun _=>by omega⟩
  show b.sc.g.eps.getD _ 0=_
  rw [e3];exact hep
 ·rw [r]
  refine ⟨fun _=>by omega,fun _=> ?_,fun _=>by omega,fun _=>by omega,fun _=>by omega,fun _=>by omega⟩
  show ((seen b.sc.m (b.sc.q c) _:Nat):Int)=_
  rw [e1,hsee _ (.inl rfl)];rfl
 ·rw [r]
  refine ⟨fun _=>by omega,fun _=>by omega,fun _=> ?_,fun _=>by omega,fun _=>by omega,fun _=>by omega⟩
  show ((seen b.sc.m (b.sc.q c) _:Nat):Int)=_
  rw [e1,hsee _ (.inr (.inl rfl))];rfl
 ·rw [r]
  refine ⟨fun _=>by omega,fun _=>by omega,fun _=>by omega,fun _=> ?_,fun _=>by omega,fun _=>by omega⟩
  show ((seen b.sc.m (b.sc.q c) _:Nat):Int)=_
  have hlt:((b.cor c).tak p).head%b.ring<b.ring:=Nat.mod_lt _ (by omega)
  rw [e1,e2]
  generalize ((b.cor c).tak p).head%b.ring=x at *
  rw [hsee _ (by unfold isG;omega)]
  unfold gview
  simp only [hlt,if_true]
 ·rw [r]
  refine ⟨fun _=>by omega,fun _=>by omega,fun _=>by omega,fun _=>by omega,fun _=> ?_,fun _=>by omega⟩
  show ((seen b.sc.m (b.sc.q c) _:Nat):Int)=_
  have hlt:((b.cor c).tak p).d<b.ring:=by have:=hd8 (by omega) (by omega);omega
  rw [e1,e2]
  rw [hsee _ (by unfold isG;omega)]
  unfold gview
  simp only [hlt,if_true]
 ·rw [r]
  refine ⟨fun _=>by omega,fun _=>by omega,fun _=>by omega,fun _=>by omega,fun _=>by omega,fun _=> ?_⟩
  show ((seen b.sc.m (b.sc.q c) _:Nat):Int)=_
  have hlt:((b.cor c).tak p).d<b.ring:=by have:=hd8 (by omega) (by omega);omega
  have hl8:((b.cor c).tak p).load.length<8:=by have:=hw9 q;omega
  rw [e1,e2]
  rw [hsee _ (by unfold isG;omega)]
  unfold gview
  simp only [hlt,hl8,and_self,if_true]
 ·exact ⟨fun _=>by omega,fun _=>by omega,fun _=>by omega,fun _=>by omega,fun _=>by omega,fun _=>by omega⟩
end
theorem gens_give {k:Grants.Tb} {N:Int} (h:∀x∈k.gens,x≤N) (hz:∀x∈k.gens,0≤x) (i:Int) (hN:0≤N):∀x∈(Grants.giveR k i).1.gens,x≤N+1:=by
 unfold Grants.giveR
 split
 ·intro x hx
  simp only [Grants.Tb.hold,Grants.Tb.gen] at hx
  rcases List.mem_or_eq_of_mem_set hx with hx|hx
  ·have:=h x hx;omega
  ·subst hx
   have:k.gens.getD i.toNat 0≤N∧0≤k.gens.getD i.toNat 0:=by
    rw [List.getD_eq_getElem?_getD]
    cases hg:k.gens[i.toNat]? with
    | none=>simpa using hN
    | some y=>exact ⟨by simpa using h y (List.mem_of_getElem? hg),by simpa using hz y (List.mem_of_getElem? hg)⟩
   omega
 ·intro x hx
  have:=h x hx;omega
section
variable {n W:Nat}
theorem giv_st {g:Giv} (ok:g.Ok n W) (hst:g.stores=true):g.stA.2<65536:=by
 have hp:g.pc=2∨g.pc=3∨g.pc=8∨g.pc=9∨g.pc=10∨g.pc=12:=by
  simp only [Giv.stores,Bool.or_eq_true,decide_eq_true_eq] at hst
  omega
 have h1:=ok.d
 have h2:=ok.r64
 have h3:=ok.len
 have h4:=ok.load
 rcases hp with p|p|p|p|p|p<;>simp only [Giv.stA,p]<;>simp
 ·unfold Giv.ep;omega
 ·cases hx:g.load[g.i]? with
  | none=>simp
  | some y=>simpa using h4 y (List.mem_of_getElem? hx)
 ·omega
 ·have:=h1 (by omega) (by omega);omega
 ·omega
theorem tak_st {t:Tak} (ok:t.Ok n W) (hst:t.stores=true):t.stA.2<65536:=by
 have hp:t.pc=2∨t.pc=3∨t.pc=10∨t.pc=12:=by
  simp only [Tak.stores,Bool.or_eq_true,decide_eq_true_eq] at hst
  omega
 have h1:=ok.dback
 have h2:=ok.r64
 have h3:=ok.pc10
 rcases hp with p|p|p|p<;>simp only [Tak.stA,p]<;>simp
 ·unfold Tak.ep;omega
 ·have:=h1 (h3 p);omega
 ·omega
theorem giv_ld {g:Giv} (h15:g.pc≤15) (h0:g.pc≠0) (hst:g.stores=false) (a y:Nat):g.tch≠ .st a y:=by
 rcases Giv.tch_quiet g hst h0 h15 with ⟨_,r⟩|⟨_,r⟩|⟨_,r⟩|⟨_,r⟩|⟨_,r|r⟩<;>rw [r]<;>exact fun q=>by cases q
theorem tak_ld {g:Tak} (h15:g.pc≤14) (h0:g.pc≠0) (hst:g.stores=false) (a y:Nat):g.tch≠ .st a y:=by
 rcases Tak.tch_quiet g hst h0 h15 with ⟨_,r⟩|⟨_,r⟩|⟨_,r⟩|⟨_,r⟩|⟨_,r⟩|⟨_,r⟩|⟨_,r⟩<;>rw [r]<;>exact fun q=>by cases q
end
section
variable {b b':Bd} {P:Nat→List Rec} {C:Nat→Option Rec} {c p:Nat}
theorem giv_at (h:BI b P C) (hc:c<b.n) (hp:p<b.n) (hpc:p≠c) (hu:b.upb c=true) (h0:((b.cor c).giv p).pc≠0) (a y:Nat) (ht:((b.cor c).giv p).tch= .st a y):isG (chanBase b.n b.ring c p) b.ring a∧y<65536∧((b.cor c).giv p).stores=true∧a=((b.cor c).giv p).stA.1∧y=((b.cor c).giv p).stA.2:=by
 have hm:=h.mach c p hc hp hpc hu
 cases hst:((b.cor c).giv p).stores with
 | false=>exact absurd ht (giv_ld hm.giv.pc h0 hst a y)
 | true=>
  have hs:=Giv.tch_st _ hst
  rw [hs] at ht
  injection ht with e1 e2
  have hg:=(gview_put _ hm.giv hst b.sc.m).2
  rw [hm.gbase,hm.gring,e1] at hg
  have hy:=giv_st hm.giv hst
  rw [e2] at hy
  exact ⟨hg,hy,rfl,e1.symm,e2.symm⟩
theorem tak_at (h:BI b P C) (hc:c<b.n) (hp:p<b.n) (hpc:p≠c) (hu:b.upb c=true) (h0:((b.cor c).tak p).pc≠0) (a y:Nat) (ht:((b.cor c).tak p).tch= .st a y):isT (chanBase b.n b.ring p c) b.ring a∧y<65536∧((b.cor c).tak p).stores=true∧a=((b.cor c).tak p).stA.1∧y=((b.cor c).tak p).stA.2:=by
 have hm:=h.mach c p hc hp hpc hu
 cases hst:((b.cor c).tak p).stores with
 | false=>exact absurd ht (tak_ld hm.tak.pc h0 hst a y)
 | true=>
  have hs:=Tak.tch_st _ hst
  rw [hs] at ht
  injection ht with e1 e2
  have hg:=(tview_put _ hm.tak hst b.sc.m).2
  rw [hm.tbase,hm.tring,e1] at hg
  have hy:=tak_st hm.tak hst
  rw [e2] at hy
  exact ⟨hg,hy,rfl,e1.symm,e2.symm⟩
theorem mem_tch (h:BI b P C) (hc:c<b.n) (t:Tch) (ht:∀a y,t= .st a y→ownW b.n b.ring c a∧y<65536):(∀a,(b.sc.tch b.most c t).1.m a<65536)∧∀k,k<b.n→∀y∈(b.sc.tch b.most c t).1.q k,ownW b.n b.ring k y.1∧y.2<65536:=by
 refine ⟨tch_m t (fun x=>x<65536) h.wrd (fun y hy=>(h.wq c hc y hy).2),fun k hk=> ?_⟩
 by_cases e:k=c
 ·subst e
  exact tch_q t (fun y=>ownW b.n b.ring k y.1∧y.2<65536) k (h.wq k hk) (fun a y e=>ht a y e)
 ·intro y hy
  have hq:(b.sc.tch b.most c t).1.q k=b.sc.q k:=by
   cases t<;>simp [Sc.tch,Sc.flush,upd_other _ _ _ _ e]
  rw [hq] at hy
  exact h.wq k hk y hy
structure Turn (b b':Bd) (c:Nat) (t:Tch) (k':Cor):Prop where
 n:b'.n=b.n
 ring:b'.ring=b.ring
 now:b'.now=b.now+1
 sc:b'.sc=(b.sc.tch b.most c t).1
 cor:b'.cor=upd b.cor c k'
 diary:b'.diary.length=b.diary.length
theorem Turn.ep {t:Tch} {k':Cor} (h:Turn b b' c t k') (i:Nat):b'.ep i=b.ep i∧b'.upb i=b.upb i:=by
 unfold Bd.ep Bd.upb
 rw [h.sc,tch_g]
 exact ⟨rfl,rfl⟩
theorem Turn.av {t:Tch} {k':Cor} (h:Turn b b' c t k') (i j:Nat):b'.av i j=(sts (b.sc.tch b.most c t).1.m ((b.sc.tch b.most c t).1.q i)).map (gview (chanBase b.n b.ring i j) b.ring):=by
 unfold Bd.av
 rw [h.sc,h.n,h.ring]
theorem Turn.bv {t:Tch} {k':Cor} (h:Turn b b' c t k') (i j:Nat):b'.bv i j=(sts (b.sc.tch b.most c t).1.m ((b.sc.tch b.most c t).1.q j)).map (tview (chanBase b.n b.ring i j) b.ring):=by
 unfold Bd.bv
 rw [h.sc,h.n,h.ring]
theorem Turn.far {t:Tch} {k':Cor} (h:Turn b b' c t k') (i:Nat) (hi:i≠c):b'.cor i=b.cor i:=by rw [h.cor,upd_other _ _ _ _ hi]
theorem Turn.own {t:Tch} {k':Cor} (h:Turn b b' c t k'):b'.cor c=k':=by rw [h.cor,upd_same]
theorem Ch.none_ {t:Tch} {k':Cor} (hB:BI b P C) (hT:Turn b b' c t k') (hc:c<b.n) {i j:Nat} (hi:i<b.n) (hj:j<b.n) (hij:i≠j) (h1:i≠c) (h2:j≠c) {pi pj:List Rec} {ci cj:Option Rec} (h:b.Ch i j pi ci pj cj):b'.Ch i j pi ci pj cj:=
 Ch_same h hT.n hT.ring (by rw [hT.now];omega) (hT.ep i).1 (hT.ep j).1 (hT.ep i).2 (hT.ep j).2 (by rw [hT.far i h1]) (by rw [hT.far j h2]) (by rw [hT.av];exact av_tch hB hc hi hj hij h1 t) (by rw [hT.bv];exact bv_tch hB hc hi hj hij h2 t)
theorem Ch.outer {t:Tch} {k':Cor} (hB:BI b P C) (hT:Turn b b' c t k') (hc:c<b.n) {j:Nat} (hj:j<b.n) (hcj:c≠j) (ht:∀a y,t= .st a y→ ¬isG (chanBase b.n b.ring c j) b.ring a) (hk:k'.giv j=(b.cor c).giv j) {pi pj pi':List Rec} {ci cj ci':Option Rec}
  (h:b.Ch c j pi ci pj cj) (hd:∀g t G,Dg c j (b.ep c) (b.ep j) (b.upb c) (b.upb j) g t G pi ci pj cj→Dg c j (b.ep c) (b.ep j) (b.upb c) (b.upb j) g t G pi' ci' pj cj):b'.Ch c j pi' ci' pj cj:=by
 obtain ⟨G,h1,h2⟩:=h
 refine ⟨G, ?_, ?_⟩
 ·rw [hT.ring,hT.now,(hT.ep c).1,(hT.ep j).1,(hT.ep c).2,(hT.ep j).2,hT.own,hT.far j (Ne.symm hcj),hk,hT.av,hT.bv,bv_tch hB hc hc hj hcj (Ne.symm hcj) t]
  exact (h1.sideA (tch_idle (gview_looks _ _) t ht)).more _ (Nat.le_succ _)
 ·rw [(hT.ep c).1,(hT.ep j).1,(hT.ep c).2,(hT.ep j).2,hT.own,hT.far j (Ne.symm hcj),hk]
  exact hd _ _ _ h2
theorem Ch.inner {t:Tch} {k':Cor} (hB:BI b P C) (hT:Turn b b' c t k') (hc:c<b.n) {i:Nat} (hi:i<b.n) (hic:i≠c) (ht:∀a y,t= .st a y→ ¬isT (chanBase b.n b.ring i c) b.ring a) (hk:k'.tak i=(b.cor c).tak i) {pi pj pj':List Rec} {ci cj cj':Option Rec}
  (h:b.Ch i c pi ci pj cj) (hd:∀g t G,Dg i c (b.ep i) (b.ep c) (b.upb i) (b.upb c) g t G pi ci pj cj→Dg i c (b.ep i) (b.ep c) (b.upb i) (b.upb c) g t G pi ci pj' cj'):b'.Ch i c pi ci pj' cj':=by
 obtain ⟨G,h1,h2⟩:=h
 refine ⟨G, ?_, ?_⟩
 ·rw [hT.ring,hT.now,(hT.ep c).1,(hT.ep i).1,(hT.ep c).2,(hT.ep i).2,hT.own,hT.far i hic,hk,hT.av,hT.bv,av_tch hB hc hi hc hic hic t]
  exact (h1.sideB (tch_idle (tview_looks _ _) t ht)).more _ (Nat.le_succ _)
 ·rw [(hT.ep c).1,(hT.ep i).1,(hT.ep c).2,(hT.ep i).2,hT.own,hT.far i hic,hk]
  exact hd _ _ _ h2
theorem apart_G (hc:c<b.n) (hp:p<b.n) (hpc:p≠c) {i j a:Nat} (hi:i<b.n) (hj:j<b.n) (hij:i≠j) (hne:i≠c∨j≠p) (ha:isG (chanBase b.n b.ring c p) b.ring a∨isT (chanBase b.n b.ring c p) b.ring a): ¬isG (chanBase b.n b.ring i j) b.ring a∧ ¬isT (chanBase b.n b.ring i j) b.ring a:=by
 have hin:chanBase b.n b.ring c p≤a∧a<chanBase b.n b.ring c p+(4+11*b.ring):=ha.elim isG_in isT_in
 have key: ¬(chanBase b.n b.ring i j≤a∧a<chanBase b.n b.ring i j+(4+11*b.ring)):=fun q=>by
  obtain ⟨e1,e2⟩:=region_inj hc hp (Ne.symm hpc) hi hj hij hin.1 hin.2 q.1 q.2
  omega
 exact ⟨fun q=>key (isG_in q),fun q=>key (isT_in q)⟩
end
theorem gstep_store_stay {g g':Giv} {w e:Int} {d:Bool} (hs:GStep g w g' d e) (hst:g.stores=true):d=false:=by
 simp only [Giv.stores,Bool.or_eq_true,decide_eq_true_eq] at hst
 cases hs<;>first|rfl|omega
theorem tstep_store_stay {t t':Tak} {w e:Int} {d:Bool} (hs:TStep t w t' d e) (hst:t.stores=true):d=false:=by
 simp only [Tak.stores,Bool.or_eq_true,decide_eq_true_eq] at hst
 cases hs<;>first|rfl|omega
theorem gstep_keep {g g':Giv} {w e:Int} {d:Bool} (hs:GStep g w g' d e):g'.base=g.base∧g'.ring=g.ring∧g'.peer=g.peer:=by cases hs<;>exact ⟨rfl,rfl,rfl⟩
theorem tstep_keep {t t':Tak} {w e:Int} {d:Bool} (hs:TStep t w t' d e):t'.base=t.base∧t'.ring=t.ring∧t'.peer=t.peer:=by cases hs<;>exact ⟨rfl,rfl,rfl⟩
theorem tstep_gens {t t':Tak} {w e:Int} {d:Bool} {N:Int} (hs:TStep t w t' d e) (h:∀x∈t.tab.gens,x≤N) (hz:∀x∈t.tab.gens,0≤x) (hN:0≤N):∀x∈t'.tab.gens,x≤N+1:=by
 have h1:∀x∈t.tab.gens,x≤N+1:=fun x hx=>by have:=h x hx;omega
 cases hs with
 | came p q r s=>exact gens_give h hz _ hN
 | settle p=>exact h1
 | _=>exact h1
section
variable {b b':Bd} {P:Nat→List Rec} {C:Nat→Option Rec} {c p:Nat} {k':Cor}
theorem BI.turn (h:BI b P C) (hc:c<b.n) {t:Tch} (hT:Turn b b' c t k') (ht:∀a y,t= .st a y→ownW b.n b.ring c a∧y<65536) {P':Nat→List Rec} {C':Nat→Option Rec}
  (hch:∀i j,i<b.n→j<b.n→i≠j→b'.Ch i j (P' i) (C' i) (P' j) (C' j)) (hm:∀q,q<b.n→q≠c→Mach b' c q) (hr:b'.Ran c (C' c)) (hC:∀i,i≠c→C' i=C i) (hf:∀x,C' c=some x→C c=some x):BI b' P' C':=by
 obtain ⟨m1,m2⟩:=mem_tch h hc t ht
 refine ⟨by rw [hT.n];exact h.n2,by rw [hT.n];exact h.n8,by rw [hT.n,hT.ring];exact h.words,by rw [hT.ring];exact h.r1,by rw [hT.ring];exact h.r64,by rw [hT.sc,tch_g];exact h.gok,by rw [hT.sc,tch_g,hT.n];exact h.cores,by rw [hT.sc];exact m1,fun k hk=>by rw [hT.n] at hk ⊢;rw [hT.sc,hT.ring];exact m2 k hk,fun i j hi hj=>by rw [hT.n] at hi hj;exact hch i j hi hj,fun i q hi hq hqi hu=> ?_,fun i hi=> ?_,fun i hi x hx=> ?_⟩
 ·rw [hT.n] at hi hq
  by_cases e:i=c
  ·subst e;exact hm q hq hqi
  ·rw [(hT.ep i).2] at hu
   obtain ⟨n1,n2,n3,n4,n5,n6,n7,n8,n9⟩:=h.mach i q hi hq hqi hu
   have hfar:=hT.far i e
   refine ⟨?_, ?_, ?_, ?_, ?_, ?_, ?_, ?_, ?_⟩<;>rw [hfar]<;>(try rw [hT.n])<;>(try rw [hT.ring])<;>first|assumption|skip
   intro x hx
   have:=n9 x hx
   rw [hT.now]
   omega
 ·rw [hT.n] at hi
  by_cases e:i=c
  ·subst e;exact hr
  ·have:=h.ran i hi
   unfold Bd.Ran at this ⊢
   rw [hT.far i e,hT.n,hT.diary,hC i e,(hT.ep i).2]
   exact this
 ·rw [hT.n] at hi
  by_cases e:i=c
  ·subst e;exact h.fin i hi x (hf x hx)
  ·rw [hC i e] at hx;exact h.fin i hi x hx
theorem BI.stepG (h:BI b P C) (hN:b.now<40000) (hc:c<b.n) (hrun:(b.cor c).runs=some (.giv p)) {o:Giv × Bool × Int} (ho:o=((b.cor c).giv p).go (b.sc.tch b.most c ((b.cor c).giv p).tch).2)
  (hT:Turn b b' c ((b.cor c).giv p).tch k') (hk1:k'.giv=upd (b.cor c).giv p o.1) (hk2:k'.tak=(b.cor c).tak) (hk3:k'.entry=(b.cor c).entry) (hk4:k'.runs=if o.2.1=true then none else some (.giv p)):
  ∃x,C c=some x∧x.ofG p∧(o.2.1=false→BI b' P C)∧(o.2.1=true→BI b' (upd P c (P c ++ [{ x with fin:=true,err:=o.2.2 }])) (upd C c none)):=by
 have hran:=h.ran c hc
 unfold Bd.Ran at hran
 rw [hrun] at hran
 obtain ⟨hu,hp,hpc,hent,x,hx,hxp⟩:=hran
 have hm:=h.mach c p hc hp hpc hu
 obtain ⟨G,hj,hd⟩:=h.ch c p hc hp (Ne.symm hpc)
 rw [hu] at hj hd
 have hd0:=hd
 rw [hx] at hd
 have h0:=(hd.rung x rfl hxp).2.1
 have hs:=Giv.go_step ((b.cor c).giv p) (b.sc.tch b.most c ((b.cor c).giv p).tch).2 h0 hm.giv.pc
 rw [←ho] at hs
 have hat:=giv_at h hc hp hpc hu h0
 have hread:=fun hst=>giv_reads h hc hp hpc hu h0 hst
 have hrng:=tch_rng h hc ((b.cor c).giv p).tch
 obtain ⟨g',dn,e⟩:=o
 simp only at hs hk1 hk4 ⊢
 obtain ⟨z,hz⟩:=last_of hj.neA
 have hgi:=hj.gi rfl z hz
 have hwf:=hgi.wf
 have hown:∀a y,((b.cor c).giv p).tch= .st a y→ownW b.n b.ring c a∧y<65536:=fun a y e=>⟨⟨p,hp,hpc, .inl (hat a y e).1⟩,(hat a y e).2.1⟩
 have hw1:((b.cor c).giv p).pc=1∨((b.cor c).giv p).pc=15→(b.sc.tch b.most c ((b.cor c).giv p).tch).2=(b.ep p:Int):=by
  intro q
  have hst:((b.cor c).giv p).stores=false:=by rcases q with q|q<;>simp [Giv.stores,q]
  exact (hread hst).1 q
 have hmain:∃G',Jn b'.now b.ring (b.ep c) (b.ep p) true (b.upb p) g' ((b.cor p).tak c) (b'.av c p) (b'.bv c p) G'∧(G'.log=G.log∨((b.cor c).giv p).inn (b.ep p)∧((b.cor c).giv p).pc=12∧G'.log=G.log ++ [(((b.cor c).giv p).d,((b.cor c).giv p).load)])∧G'.hd=G.hd∧(dn=true→G'.log=G.log):=by
  rw [hT.now,hT.av,hT.bv,bv_tch h hc hc hp (Ne.symm hpc) hpc]
  cases hst:((b.cor c).giv p).stores with
  | false=>
   obtain ⟨r1,r2,r3,r4⟩:=hread hst
   obtain ⟨tl',hq⟩:=hj.gquiet (by omega) h0 hs hst (tview (chanBase b.n b.ring c p) b.ring b.sc.m) map_head r1 r2 r3 r4
   exact ⟨_,(hq.sideA (tch_idle (gview_looks _ _) _ (fun a y e=>by have:=(hat a y e).2.2.1;rw [hst] at this;cases this))).more _ (Nat.le_succ _), .inl rfl,rfl,fun _=>rfl⟩
  | true=>
   have htc:=Giv.tch_st _ hst
   obtain ⟨l1,q1,q2,q3⟩:=tch_put (most:=b.most) (c:=c) (s:=b.sc) (v:=gview (chanBase b.n b.ring c p) b.ring) ((b.cor c).giv p).stA.1 ((b.cor c).giv p).stA.2
   rw [htc,q3]
   have hput:=(gview_put _ hm.giv hst (applyAll b.sc.m (b.sc.q c))).1
   rw [hm.gbase,hm.gring] at hput
   rw [hput]
   obtain ⟨log',hlog,hj'⟩:=hj.gstore (by omega) hs hst _ q2 q1
   exact ⟨_,hj',hlog,rfl,fun q=>by have:=gstep_store_stay hs hst;rw [this] at q;cases q⟩
 obtain ⟨G',hj',hlog,hhd,hlogd⟩:=hmain
 have hmach:∀q,q<b.n→q≠c→Mach b' c q:=by
  intro q hq hqc
  obtain ⟨n1,n2,n3,n4,n5,n6,n7,n8,n9⟩:=h.mach c q hc hq hqc hu
  have hn9:∀x∈((b.cor c).tak q).tab.gens,x≤((b.now+1:Nat):Int):=fun x hx=>by have:=n9 x hx;omega
  by_cases e:q=p
  ·subst e
   have hk:=gstep_keep hs
   refine ⟨?_, ?_, ?_, ?_, ?_, ?_, ?_, ?_, ?_⟩<;>rw [hT.own]<;>(first|rw [hk1,upd_same]|rw [hk2])<;>(try rw [hT.n])<;>(try rw [hT.ring])
   ·exact n1.go hs hrng.1 hrng.2
   ·rw [hk.1];exact n2
   ·rw [hk.2.1];exact n3
   ·rw [hk.2.2];exact n4
   ·exact n5
   ·exact n6
   ·exact n7
   ·exact n8
   ·rw [hT.now];exact hn9
  ·refine ⟨?_, ?_, ?_, ?_, ?_, ?_, ?_, ?_, ?_⟩<;>rw [hT.own]<;>(first|rw [hk1,upd_other _ _ _ _ e]|rw [hk2])<;>(try rw [hT.n])<;>(try rw [hT.ring])<;>first|assumption|skip
   rw [hT.now];exact hn9
 have hap:∀i j,i<b.n→j<b.n→i≠j→(i≠c∨j≠p)→∀a y,((b.cor c).giv p).tch= .st a y→ ¬isG (chanBase b.n b.ring i j) b.ring a∧ ¬isT (chanBase b.n b.ring i j) b.ring a:=
  fun i j hi hj hij hne a y e=>apart_G hc hp hpc hi hj hij hne (.inl (hat a y e).1)
 refine ⟨x,hx,hxp,fun hdn=> ?_,fun hdn=> ?_⟩
 ·subst hdn
  have hdg:=hd.gstay rfl hxp hs hwf hw1 (fun q=>(hgi.out0 q).1) (fun q=>(hgi.inn q).next) hlog hhd hj.hdl
  refine h.turn hc hT hown (fun i j hi hj2 hij=> ?_) hmach ?_ (fun _ _=>rfl) (fun _ q=>q)
  ·by_cases ei:i=c
   ·subst ei
    by_cases ej:j=p
    ·subst ej
     refine ⟨G', ?_, ?_⟩
     ·rw [hT.ring,(hT.ep i).1,(hT.ep j).1,(hT.ep i).2,(hT.ep j).2,hT.own,hT.far j hpc,hk1,upd_same,hu];exact hj'
     ·rw [(hT.ep i).1,(hT.ep j).1,(hT.ep i).2,(hT.ep j).2,hT.own,hT.far j hpc,hk1,upd_same,hu,hx];exact hdg
    ·exact Ch.outer h hT hi hj2 hij (fun a y e=>(hap i j hi hj2 hij (.inr ej) a y e).1) (by rw [hk1,upd_other _ _ _ _ ej]) (h.ch i j hi hj2 hij) (fun _ _ _ q=>q)
   ·by_cases ej:j=c
    ·subst ej
     exact Ch.inner h hT hj2 hi hij (fun a y e=>(hap i j hi hj2 hij (.inl ei) a y e).2) (by rw [hk2]) (h.ch i j hi hj2 hij) (fun _ _ _ q=>q)
    ·exact Ch.none_ h hT hc hi hj2 hij ei ej (h.ch i j hi hj2 hij)
  ·unfold Bd.Ran
   rw [hT.own,hk4,if_neg (by simp),hk3,hT.diary,hT.n,(hT.ep c).2]
   exact ⟨hu,hp,hpc,hent,x,hx,hxp⟩
 ·subst hdn
  have hdg:=hd.gend rfl hxp hs hwf hw1 (fun q=>(hgi.inn q).next) (fun q=>(hgi.inn q).sh) (by have:=hj.lim;omega) (hlogd rfl) hhd _ rfl
  have hyG:∀j,j≠p→ ¬({ x with fin:=true,err:=e }:Rec).ofG j:=fun j hj q=>hj (by rw [←q.2];exact hxp.2)
  have hyT:∀i, ¬({ x with fin:=true,err:=e }:Rec).ofT i:=fun i q=>ofG_ofT (x:=x) hxp q
  refine h.turn hc hT hown (fun i j hi hj2 hij=> ?_) hmach ?_ (fun i hi=>upd_other _ _ _ _ hi) (fun y q=>by rw [upd_same] at q;cases q)
  ·by_cases ei:i=c
   ·subst ei
    rw [upd_same,upd_same,upd_other _ _ _ _ (Ne.symm hij),upd_other _ _ _ _ (Ne.symm hij)]
    by_cases ej:j=p
    ·subst ej
     refine ⟨G', ?_, ?_⟩
     ·rw [hT.ring,(hT.ep i).1,(hT.ep j).1,(hT.ep i).2,(hT.ep j).2,hT.own,hT.far j hpc,hk1,upd_same,hu];exact hj'
     ·rw [(hT.ep i).1,(hT.ep j).1,(hT.ep i).2,(hT.ep j).2,hT.own,hT.far j hpc,hk1,upd_same,hu];exact hdg
    ·refine Ch.outer h hT hi hj2 hij (fun a y e=>(hap i j hi hj2 hij (.inr ej) a y e).1) (by rw [hk1,upd_other _ _ _ _ ej]) (h.ch i j hi hj2 hij) (fun _ _ _ q=>q.iother (fun y hy r=> ?_) _ (hyG j ej) none (fun y hy=>by cases hy))
     rw [hx] at hy;injection hy with hy;subst hy
     exact ej (by rw [←r.2];exact hxp.2)
   ·rw [upd_other _ _ _ _ ei,upd_other _ _ _ _ ei]
    by_cases ej:j=c
    ·subst ej
     rw [upd_same,upd_same]
     refine Ch.inner h hT hj2 hi hij (fun a y e=>(hap i j hi hj2 hij (.inl ei) a y e).2) (by rw [hk2]) (h.ch i j hi hj2 hij) (fun _ _ _ q=>q.jother (fun y hy r=> ?_) _ (hyT i) none (fun y hy=>by cases hy))
     rw [hx] at hy;injection hy with hy;subst hy
     exact ofG_ofT hxp r
    ·rw [upd_other _ _ _ _ ej,upd_other _ _ _ _ ej]
     exact Ch.none_ h hT hc hi hj2 hij ei ej (h.ch i j hi hj2 hij)
  ·unfold Bd.Ran
   rw [hT.own,hk4,if_pos rfl,upd_same]
theorem BI.stepT (h:BI b P C) (hN:b.now<40000) (hc:c<b.n) (hrun:(b.cor c).runs=some (.tak p)) {o:Tak × Bool × Int} (ho:o=((b.cor c).tak p).go (b.sc.tch b.most c ((b.cor c).tak p).tch).2)
  (hT:Turn b b' c ((b.cor c).tak p).tch k') (hk1:k'.tak=upd (b.cor c).tak p o.1) (hk2:k'.giv=(b.cor c).giv) (hk3:k'.entry=(b.cor c).entry) (hk4:k'.runs=if o.2.1=true then none else some (.tak p)):
  ∃x,C c=some x∧x.ofT p∧(o.2.1=false→BI b' P C)∧(o.2.1=true→∀y:Rec,y.kind=x.kind→y.peer=x.peer→y.fin=true→y.err=o.2.2→y.link=x.link→(x.kind=2→o.2.2=0→y.load=o.1.gotR.1.map (Nat.cast:Nat→Int))→BI b' (upd P c (P c ++ [y])) (upd C c none)):=by
 have hran:=h.ran c hc
 unfold Bd.Ran at hran
 rw [hrun] at hran
 obtain ⟨hu,hp,hpc,hent,x,hx,hxp⟩:=hran
 have hm:=h.mach c p hc hp hpc hu
 obtain ⟨G,hj,hd⟩:=h.ch p c hp hc hpc
 rw [hu] at hj hd
 rw [hx] at hd
 have hrunt:=hd.runt x rfl hxp
 have h0:=hrunt.2.1
 have hs:=Tak.go_step ((b.cor c).tak p) (b.sc.tch b.most c ((b.cor c).tak p).tch).2 h0 hm.tak.pc
 rw [←ho] at hs
 have hat:=tak_at h hc hp hpc hu h0
 have hread:=fun hst=>tak_reads h hc hp hpc hu h0 hst
 have hrng:=tch_rng h hc ((b.cor c).tak p).tch
 obtain ⟨t',dn,e⟩:=o
 simp only at hs hk1 hk4 ⊢
 obtain ⟨z,hz⟩:=last_of hj.neB
 have hti:=hj.ti rfl z hz
 have hwf:=hti.wf
 have hown:∀a y,((b.cor c).tak p).tch= .st a y→ownW b.n b.ring c a∧y<65536:=fun a y e=>⟨⟨p,hp,hpc, .inr (hat a y e).1⟩,(hat a y e).2.1⟩
 have hw1:((b.cor c).tak p).pc=1∨((b.cor c).tak p).pc=14→(b.sc.tch b.most c ((b.cor c).tak p).tch).2=(b.ep p:Int):=by
  intro q
  have hst:((b.cor c).tak p).stores=false:=by rcases q with q|q<;>simp [Tak.stores,q]
  exact (hread hst).1 q
 have hmain:∃G',Jn b'.now b.ring (b.ep p) (b.ep c) (b.upb p) true ((b.cor p).giv c) t' (b'.av p c) (b'.bv p c) G'∧G'.log=G.log∧(G'.hd=G.hd∧ ¬(((b.cor c).tak p).inn (b.ep p)∧((b.cor c).tak p).read∧dn=true)∨((b.cor c).tak p).inn (b.ep p)∧((b.cor c).tak p).read∧dn=true∧e=0∧G.hd<G.log.length∧G'.hd=G.hd+1):=by
  rw [hT.now,hT.av,hT.bv,av_tch h hc hp hc hpc hpc]
  cases hst:((b.cor c).tak p).stores with
  | false=>
   obtain ⟨r1,r2,r3,r4,r5,r6⟩:=hread hst
   obtain ⟨hd',H',hr,hq⟩:=hj.tquiet (by omega) h0 hs hst (gview (chanBase b.n b.ring p c) b.ring b.sc.m) map_head r1 r2 r3 r4 r5 r6
   refine ⟨_,(hq.sideB (tch_idle (tview_looks _ _) _ (fun a y e=>by have:=(hat a y e).2.2.1;rw [hst] at this;cases this))).more _ (Nat.le_succ _),rfl, ?_⟩
   rcases hr with ⟨q1,q2,q3⟩|⟨q1,q2,q3,q4,q5,q6⟩
   ·exact .inl ⟨q1,q3⟩
   ·exact .inr ⟨q1,q2,q3,q4,q5,q6⟩
  | true=>
   have htc:=Tak.tch_st _ hst
   obtain ⟨l1,q1,q2,q3⟩:=tch_put (most:=b.most) (c:=c) (s:=b.sc) (v:=tview (chanBase b.n b.ring p c) b.ring) ((b.cor c).tak p).stA.1 ((b.cor c).tak p).stA.2
   rw [htc,q3]
   have hput:=(tview_put _ hm.tak hst (applyAll b.sc.m (b.sc.q c))).1
   rw [hm.tbase,hm.tring] at hput
   rw [hput]
   obtain ⟨ulog',H',tl',hj'⟩:=hj.tstore (by omega) hs hst _ q2 q1
   exact ⟨_,hj',rfl, .inl ⟨rfl,fun q=>by have:=tstep_store_stay hs hst;rw [this] at q;cases q.2.2⟩⟩
 obtain ⟨G',hj',hlog,hhd⟩:=hmain
 have hmach:∀q,q<b.n→q≠c→Mach b' c q:=by
  intro q hq hqc
  obtain ⟨n1,n2,n3,n4,n5,n6,n7,n8,n9⟩:=h.mach c q hc hq hqc hu
  by_cases e:q=p
  ·subst e
   have hk:=tstep_keep hs
   refine ⟨?_, ?_, ?_, ?_, ?_, ?_, ?_, ?_, ?_⟩<;>rw [hT.own]<;>(first|rw [hk1,upd_same]|rw [hk2])<;>(try rw [hT.n])<;>(try rw [hT.ring])
   ·exact n1
   ·exact n2
   ·exact n3
   ·exact n4
   ·exact n5.go hs hrng.1 hrng.2
   ·rw [hk.1];exact n6
   ·rw [hk.2.1];exact n7
   ·rw [hk.2.2];exact n8
   ·rw [hT.now]
    have:=tstep_gens hs n9 (fun x hx=>(n5.tab.rng x hx).1) (by omega)
    intro x hx
    have:=this x hx
    omega
  ·have hn9:∀x∈((b.cor c).tak q).tab.gens,x≤((b.now+1:Nat):Int):=fun x hx=>by have:=n9 x hx;omega
   refine ⟨?_, ?_, ?_, ?_, ?_, ?_, ?_, ?_, ?_⟩<;>rw [hT.own]<;>(first|rw [hk1,upd_other _ _ _ _ e]|rw [hk2])<;>(try rw [hT.n])<;>(try rw [hT.ring])<;>first|assumption|skip
   rw [hT.now];exact hn9
 have hap:∀i j,i<b.n→j<b.n→i≠j→(i≠p∨j≠c)→∀a y,((b.cor c).tak p).tch= .st a y→ ¬isG (chanBase b.n b.ring i j) b.ring a∧ ¬isT (chanBase b.n b.ring i j) b.ring a:=
  fun i j hi hj hij hne a y e=>apart_G hp hc (Ne.symm hpc) hi hj hij hne (.inr (hat a y e).1)
 refine ⟨x,hx,hxp,fun hdn=> ?_,fun hdn y y1 y2 y3 y4 y5 y6=> ?_⟩
 ·subst hdn
  have hhd':G'.hd=G.hd:=by
   rcases hhd with q|q
   ·exact q.1
   ·cases q.2.2.1
  have hdg:=hd.tstay rfl hxp hs hwf hw1 ⟨hlog,hhd'⟩
  refine h.turn hc hT hown (fun i j hi hj2 hij=> ?_) hmach ?_ (fun _ _=>rfl) (fun _ q=>q)
  ·by_cases ej:j=c
   ·subst ej
    by_cases ei:i=p
    ·subst ei
     refine ⟨G', ?_, ?_⟩
     ·rw [hT.ring,(hT.ep i).1,(hT.ep j).1,(hT.ep i).2,(hT.ep j).2,hT.own,hT.far i hpc,hk1,upd_same,hu];exact hj'
     ·rw [(hT.ep i).1,(hT.ep j).1,(hT.ep i).2,(hT.ep j).2,hT.own,hT.far i hpc,hk1,upd_same,hu,hx];exact hdg
    ·exact Ch.inner h hT hj2 hi hij (fun a y e=>(hap i j hi hj2 hij (.inl ei) a y e).2) (by rw [hk1,upd_other _ _ _ _ ei]) (h.ch i j hi hj2 hij) (fun _ _ _ q=>q)
   ·by_cases ei:i=c
    ·subst ei
     exact Ch.outer h hT hi hj2 hij (fun a y e=>(hap i j hi hj2 hij (.inr ej) a y e).1) (by rw [hk2]) (h.ch i j hi hj2 hij) (fun _ _ _ q=>q)
    ·exact Ch.none_ h hT hc hi hj2 hij ei ej (h.ch i j hi hj2 hij)
  ·unfold Bd.Ran
   rw [hT.own,hk4,if_neg (by simp),hk3,hT.diary,hT.n,(hT.ep c).2]
   exact ⟨hu,hp,hpc,hent,x,hx,hxp⟩
 ·subst hdn
  have hload:x.kind=2→e=0→y.load=((b.cor c).tak p).load.map (Nat.cast:Nat→Int):=by
   intro k2 e0
   rw [y6 k2 e0]
   have hb:((b.cor c).tak p).back=false:=by
    cases hb:((b.cor c).tak p).back with
    | false=>rfl
    | true=>have:=hrunt.2.2.2.1.2 hb;omega
   have hg9:=hm.gens
   have hgok:=hm.tak.tab
   have hd8:((b.cor c).tak p).read→((b.cor c).tak p).inn (b.ep p)→((b.cor c).tak p).d<b.ring∧((b.cor c).tak p).tab.held.getD ((b.cor c).tak p).d false=false:=fun q r=>by
    have:=(hti.inn r).d8 (.inr q)
    exact this.2
   have hw6:=hwf.wf6
   have htn:=hwf.tabn
   generalize htt:(b.cor c).tak p=tt at *
   generalize (b.sc.tch b.most c tt.tch).2=ww at *
   cases hs with
   | settle q=>omega
   | down q r=>omega
   | reset q r=>omega
   | told q r s=>omega
   | freed q r s u=>rw [hb] at u;cases u
   | came q r s u=>
    have hk:=hw1 (.inr q)
    have hi:tt.inn (b.ep p):=⟨hw6 (by omega),by omega,by omega,by omega,by omega⟩
    obtain ⟨d1,d2⟩:=hd8 ⟨q,u,s⟩ hi
    unfold Tak.gotR
    simp only
    rw [if_pos]
    refine ⟨trivial, ?_⟩
    unfold Grants.giveR
    rw [if_pos ⟨by omega,by omega,by rw [Int.toNat_natCast];exact d2⟩]
    simp only [Int.toNat_natCast]
    have h64:=h.r64
    have:tt.tab.gens.getD tt.d 0≤(b.now:Int)∧0≤tt.tab.gens.getD tt.d 0:=by
     refine ⟨?_,(hgok.get tt.d (by omega)).1⟩
     rw [List.getD_eq_getElem?_getD]
     cases hgg:tt.tab.gens[tt.d]? with
     | none=>simp
     | some v=>simpa using hg9 v (List.mem_of_getElem? hgg)
    omega
  have hhd2:G'.hd=G.hd∧ ¬(((b.cor c).tak p).inn (b.ep p)∧((b.cor c).tak p).read∧true=true)∨((b.cor c).tak p).inn (b.ep p)∧((b.cor c).tak p).read∧e=0∧G.hd<G.log.length∧G'.hd=G.hd+1:=by
   rcases hhd with q|⟨q1,q2,q3,q4,q5,q6⟩
   ·exact .inl q
   ·exact .inr ⟨q1,q2,q4,q5,q6⟩
  have hdg:=hd.tend rfl hxp hs hwf hw1 (fun q r=>(hti.inn q).w14 r) hlog hhd2 y y1 y2 y3 y4 hload y5
  have hyT:∀i,i≠p→ ¬y.ofT i:=fun i hi q=>hi (by rw [←q.2,y2];exact hxp.2)
  have hyG:∀j, ¬y.ofG j:=fun j q=>ofG_ofT (x:=x) (j:=j) (i:=p) ⟨by rw [←y1];exact q.1,by rw [←y2];exact q.2⟩ hxp
  refine h.turn hc hT hown (fun i j hi hj2 hij=> ?_) hmach ?_ (fun i hi=>upd_other _ _ _ _ hi) (fun y q=>by rw [upd_same] at q;cases q)
  ·by_cases ej:j=c
   ·subst ej
    rw [upd_same,upd_same,upd_other _ _ _ _ hij,upd_other _ _ _ _ hij]
    by_cases ei:i=p
    ·subst ei
     refine ⟨G', ?_, ?_⟩
     ·rw [hT.ring,(hT.ep i).1,(hT.ep j).1,(hT.ep i).2,(hT.ep j).2,hT.own,hT.far i hpc,hk1,upd_same,hu];exact hj'
     ·rw [(hT.ep i).1,(hT.ep j).1,(hT.ep i).2,(hT.ep j).2,hT.own,hT.far i hpc,hk1,upd_same,hu];exact hdg
    ·refine Ch.inner h hT hj2 hi hij (fun a y e=>(hap i j hi hj2 hij (.inl ei) a y e).2) (by rw [hk1,upd_other _ _ _ _ ei]) (h.ch i j hi hj2 hij) (fun _ _ _ q=>q.jother (fun y hy r=> ?_) _ (hyT i ei) none (fun y hy=>by cases hy))
     rw [hx] at hy;injection hy with hy;subst hy
     exact ei (by rw [←r.2];exact hxp.2)
   ·rw [upd_other _ _ _ _ ej,upd_other _ _ _ _ ej]
    by_cases ei:i=c
    ·subst ei
     rw [upd_same,upd_same]
     refine Ch.outer h hT hi hj2 hij (fun a y e=>(hap i j hi hj2 hij (.inr ej) a y e).1) (by rw [hk2]) (h.ch i j hi hj2 hij) (fun _ _ _ q=>q.iother (fun y hy r=> ?_) _ (hyG j) none (fun y hy=>by cases hy))
     rw [hx] at hy;injection hy with hy;subst hy
     exact ofG_ofT r hxp
    ·rw [upd_other _ _ _ _ ei,upd_other _ _ _ _ ei]
     exact Ch.none_ h hT hc hi hj2 hij ei ej (h.ch i j hi hj2 hij)
  ·unfold Bd.Ran
   rw [hT.own,hk4,if_pos rfl,upd_same]
end
section
variable {b b':Bd} {P:Nat→List Rec} {C:Nat→Option Rec} {c p:Nat}
theorem Mach.same {i q:Nat} (h:Mach b i q) (hn:b'.n=b.n) (hr:b'.ring=b.ring) (hnow:b.now≤b'.now) (hg:(b'.cor i).giv q=(b.cor i).giv q) (ht:(b'.cor i).tak q=(b.cor i).tak q):Mach b' i q:=by
 obtain ⟨n1,n2,n3,n4,n5,n6,n7,n8,n9⟩:=h
 refine ⟨by rw [hg,hn,hr];exact n1,by rw [hg,hn,hr];exact n2,by rw [hg,hr];exact n3,by rw [hg];exact n4,by rw [ht,hn,hr];exact n5,by rw [ht,hn,hr];exact n6,by rw [ht,hr];exact n7,by rw [ht];exact n8, ?_⟩
 rw [ht]
 intro x hx
 have:=n9 x hx
 omega
theorem Ran.same {i:Nat} {ci:Option Rec} (h:b.Ran i ci) (hn:b'.n=b.n) (hu:b'.upb i=b.upb i) (hd:b.diary.length≤b'.diary.length) (hr:(b'.cor i).runs=(b.cor i).runs) (he:(b'.cor i).entry=(b.cor i).entry):b'.Ran i ci:=by
 unfold Bd.Ran at *
 rw [hr,hn,hu,he]
 generalize (b.cor i).runs=r at *
 cases r with
 | none=>exact h
 | some r=>
  cases r with
  | giv p=>exact ⟨h.1,h.2.1,h.2.2.1,Nat.lt_of_lt_of_le h.2.2.2.1 hd,h.2.2.2.2⟩
  | tak p=>exact ⟨h.1,h.2.1,h.2.2.1,Nat.lt_of_lt_of_le h.2.2.2.1 hd,h.2.2.2.2⟩
theorem BI.drain (h:BI b P C) (hc:c<b.n) (hn:b'.n=b.n) (hr:b'.ring=b.ring) (hnow:b.now≤b'.now) (hsc:b'.sc= { b.sc with m:=drM b.sc.m (b.sc.q c),q:=upd b.sc.q c (b.sc.q c).tail }) (hcor:b'.cor=b.cor) (hdi:b'.diary=b.diary):BI b' P C:=by
 have hep:∀i,b'.ep i=b.ep i∧b'.upb i=b.upb i:=fun i=>by unfold Bd.ep Bd.upb;rw [hsc];exact ⟨rfl,rfl⟩
 have hav:∀i j,b'.av i j=(sts (drM b.sc.m (b.sc.q c)) (upd b.sc.q c (b.sc.q c).tail i)).map (gview (chanBase b.n b.ring i j) b.ring):=fun i j=>by unfold Bd.av;rw [hn,hr,hsc]
 have hbv:∀i j,b'.bv i j=(sts (drM b.sc.m (b.sc.q c)) (upd b.sc.q c (b.sc.q c).tail j)).map (tview (chanBase b.n b.ring i j) b.ring):=fun i j=>by unfold Bd.bv;rw [hn,hr,hsc]
 refine ⟨by rw [hn];exact h.n2,by rw [hn];exact h.n8,by rw [hn,hr];exact h.words,by rw [hr];exact h.r1,by rw [hr];exact h.r64,by rw [hsc];exact h.gok,by rw [hsc,hn];exact h.cores, ?_,fun k hk=> ?_,fun i j hi hj hij=> ?_,fun i q hi hq hqi hu=> ?_,fun i hi=> ?_,fun i hi=> ?_⟩
 ·rw [hsc]
  exact drM_all (P:=fun x=>x<65536) (fun y hy=>(h.wq c hc y hy).2) h.wrd
 ·rw [hn] at hk
  rw [hsc,hn,hr]
  intro y hy
  by_cases e:k=c
  ·subst e
   have hy:y∈upd b.sc.q k (b.sc.q k).tail k:=hy
   rw [upd_same] at hy
   exact h.wq k hk y (List.mem_of_mem_tail hy)
  ·have hy:y∈upd b.sc.q c (b.sc.q c).tail k:=hy
   rw [upd_other _ _ _ _ e] at hy
   exact h.wq k hk y hy
 ·rw [hn] at hi hj
  obtain ⟨G,h1,h2⟩:=h.ch i j hi hj hij
  refine ⟨G, ?_, ?_⟩
  ·rw [hr,(hep i).1,(hep j).1,(hep i).2,(hep j).2,hcor,hav,hbv]
   refine Jn.more ?_ _ hnow
   by_cases ei:i=c
   ·subst ei
    have hb2:(sts (drM b.sc.m (b.sc.q i)) (upd b.sc.q i (b.sc.q i).tail j)).map (tview (chanBase b.n b.ring i j) b.ring)=b.bv i j:=drain_foreign (tview_looks _ _) (Ne.symm hij) (notT_of h hc hi hj hij (Ne.symm hij))
    rw [hb2]
    exact h1.shrinkA drain_own
   ·have ha2:(sts (drM b.sc.m (b.sc.q c)) (upd b.sc.q c (b.sc.q c).tail i)).map (gview (chanBase b.n b.ring i j) b.ring)=b.av i j:=drain_foreign (gview_looks _ _) ei (notG_of h hc hi hj hij ei)
    rw [ha2]
    by_cases ej:j=c
    ·subst ej
     exact h1.shrinkB drain_own
    ·have hb2:(sts (drM b.sc.m (b.sc.q c)) (upd b.sc.q c (b.sc.q c).tail j)).map (tview (chanBase b.n b.ring i j) b.ring)=b.bv i j:=drain_foreign (tview_looks _ _) ej (notT_of h hc hi hj hij ej)
     rw [hb2]
     exact h1
  ·rw [(hep i).1,(hep j).1,(hep i).2,(hep j).2,hcor];exact h2
 ·rw [hn] at hi hq
  rw [(hep i).2] at hu
  exact (h.mach i q hi hq hqi hu).same hn hr hnow (by rw [hcor]) (by rw [hcor])
 ·rw [hn] at hi
  exact Ran.same (h.ran i hi) hn (hep i).2 (by rw [hdi];exact Nat.le_refl _) (by rw [hcor]) (by rw [hcor])
 ·rw [hn] at hi;exact h.fin i hi
theorem BI.still (h:BI b P C) (hn:b'.n=b.n) (hr:b'.ring=b.ring) (hnow:b.now≤b'.now) (hsc:b'.sc=b.sc) (hcor:b'.cor=b.cor) (hdi:b'.diary=b.diary):BI b' P C:=by
 have hep:∀i,b'.ep i=b.ep i∧b'.upb i=b.upb i:=fun i=>by unfold Bd.ep Bd.upb;rw [hsc];exact ⟨rfl,rfl⟩
 refine ⟨by rw [hn];exact h.n2,by rw [hn];exact h.n8,by rw [hn,hr];exact h.words,by rw [hr];exact h.r1,by rw [hr];exact h.r64,by rw [hsc];exact h.gok,by rw [hsc,hn];exact h.cores,by rw [hsc];exact h.wrd,fun k hk=> ?_,fun i j hi hj hij=> ?_,fun i q hi hq hqi hu=> ?_,fun i hi=> ?_,fun i hi=> ?_⟩
 ·rw [hn] at hk;rw [hsc,hn,hr];exact h.wq k hk
 ·rw [hn] at hi hj
  exact Ch_same (h.ch i j hi hj hij) hn hr hnow (hep i).1 (hep j).1 (hep i).2 (hep j).2 (by rw [hcor]) (by rw [hcor]) (by unfold Bd.av;rw [hn,hr,hsc]) (by unfold Bd.bv;rw [hn,hr,hsc])
 ·rw [hn] at hi hq
  rw [(hep i).2] at hu
  exact (h.mach i q hi hq hqi hu).same hn hr hnow (by rw [hcor]) (by rw [hcor])
 ·rw [hn] at hi
  exact Ran.same (h.ran i hi) hn (hep i).2 (by rw [hdi];exact Nat.le_refl _) (by rw [hcor]) (by rw [hcor])
 ·rw [hn] at hi;exact h.fin i hi
structure Begun (b b':Bd) (c:Nat) (k':Cor):Prop where
 n:b'.n=b.n
 ring:b'.ring=b.ring
 now:b.now≤b'.now
 sc:b'.sc=b.sc
 cor:b'.cor=upd b.cor c k'
 entry:k'.entry=b.diary.length
 diary:b'.diary.length=b.diary.length+1
theorem Begun.ep {k':Cor} (h:Begun b b' c k') (i:Nat):b'.ep i=b.ep i∧b'.upb i=b.upb i:=by unfold Bd.ep Bd.upb;rw [h.sc];exact ⟨rfl,rfl⟩
theorem Begun.av {k':Cor} (h:Begun b b' c k') (i j:Nat):b'.av i j=b.av i j:=by unfold Bd.av;rw [h.n,h.ring,h.sc]
theorem Begun.bv {k':Cor} (h:Begun b b' c k') (i j:Nat):b'.bv i j=b.bv i j:=by unfold Bd.bv;rw [h.n,h.ring,h.sc]
theorem Begun.far {k':Cor} (h:Begun b b' c k') (i:Nat) (hi:i≠c):b'.cor i=b.cor i:=by rw [h.cor,upd_other _ _ _ _ hi]
theorem Begun.own {k':Cor} (h:Begun b b' c k'):b'.cor c=k':=by rw [h.cor,upd_same]
theorem BI.begun (h:BI b P C) (hc:c<b.n) {k':Cor} (hB:Begun b b' c k') (x:Rec) (hfin:x.fin=false∧(x.kind=1∨x.kind=2∨x.kind=3))
  (hout:∀j,j<b.n→j≠c→b'.Ch c j (P c) (some x) (P j) (C j)) (hin:∀i,i<b.n→i≠c→b'.Ch i c (P i) (C i) (P c) (some x)) (hm:∀q,q<b.n→q≠c→Mach b' c q) (hr:b'.Ran c (some x)):BI b' P (upd C c (some x)):=by
 refine ⟨by rw [hB.n];exact h.n2,by rw [hB.n];exact h.n8,by rw [hB.n,hB.ring];exact h.words,by rw [hB.ring];exact h.r1,by rw [hB.ring];exact h.r64,by rw [hB.sc];exact h.gok,by rw [hB.sc,hB.n];exact h.cores,by rw [hB.sc];exact h.wrd,fun k hk=> ?_,fun i j hi hj hij=> ?_,fun i q hi hq hqi hu=> ?_,fun i hi=> ?_,fun i hi y hy=> ?_⟩
 ·rw [hB.n] at hk;rw [hB.sc,hB.n,hB.ring];exact h.wq k hk
 ·rw [hB.n] at hi hj
  by_cases ei:i=c
  ·subst ei
   rw [upd_same,upd_other _ _ _ _ (Ne.symm hij)]
   exact hout j hj (Ne.symm hij)
  ·rw [upd_other _ _ _ _ ei]
   by_cases ej:j=c
   ·subst ej
    rw [upd_same]
    exact hin i hi ei
   ·rw [upd_other _ _ _ _ ej]
    exact Ch_same (h.ch i j hi hj hij) hB.n hB.ring hB.now (hB.ep i).1 (hB.ep j).1 (hB.ep i).2 (hB.ep j).2 (by rw [hB.far i ei]) (by rw [hB.far j ej]) (hB.av i j) (hB.bv i j)
 ·rw [hB.n] at hi hq
  by_cases e:i=c
  ·subst e;exact hm q hq hqi
  ·rw [(hB.ep i).2] at hu
   exact (h.mach i q hi hq hqi hu).same hB.n hB.ring hB.now (by rw [hB.far i e]) (by rw [hB.far i e])
 ·rw [hB.n] at hi
  by_cases e:i=c
  ·subst e;rw [upd_same];exact hr
  ·rw [upd_other _ _ _ _ e]
   exact Ran.same (h.ran i hi) hB.n (hB.ep i).2 (by rw [hB.diary];omega) (by rw [hB.far i e]) (by rw [hB.far i e])
 ·rw [hB.n] at hi
  by_cases e:i=c
  ·subst e;rw [upd_same] at hy;injection hy with hy;subst hy;exact hfin
  ·rw [upd_other _ _ _ _ e] at hy;exact h.fin i hi y hy
theorem Begun.outer {k':Cor} (h:BI b P C) (hB:Begun b b' c k') (hc:c<b.n) (hC:C c=none) (x:Rec) {j:Nat} (hj:j<b.n) (hjc:j≠c) (hk:k'.giv j=(b.cor c).giv j) (hx: ¬x.ofG j):b'.Ch c j (P c) (some x) (P j) (C j):=by
 obtain ⟨G,h1,h2⟩:=h.ch c j hc hj (Ne.symm hjc)
 refine ⟨G, ?_, ?_⟩
 ·rw [hB.ring,(hB.ep c).1,(hB.ep j).1,(hB.ep c).2,(hB.ep j).2,hB.own,hB.far j hjc,hk,hB.av,hB.bv];exact h1.more _ hB.now
 ·rw [(hB.ep c).1,(hB.ep j).1,(hB.ep c).2,(hB.ep j).2,hB.own,hB.far j hjc,hk]
  exact h2.ibegin (fun y hy=>by rw [hC] at hy;cases hy) (some x) (fun y hy=>by injection hy with hy;subst hy;exact hx)
theorem Begun.inner {k':Cor} (h:BI b P C) (hB:Begun b b' c k') (hc:c<b.n) (hC:C c=none) (x:Rec) {i:Nat} (hi:i<b.n) (hic:i≠c) (hk:k'.tak i=(b.cor c).tak i) (hx: ¬x.ofT i):b'.Ch i c (P i) (C i) (P c) (some x):=by
 obtain ⟨G,h1,h2⟩:=h.ch i c hi hc hic
 refine ⟨G, ?_, ?_⟩
 ·rw [hB.ring,(hB.ep c).1,(hB.ep i).1,(hB.ep c).2,(hB.ep i).2,hB.own,hB.far i hic,hk,hB.av,hB.bv];exact h1.more _ hB.now
 ·rw [(hB.ep c).1,(hB.ep i).1,(hB.ep c).2,(hB.ep i).2,hB.own,hB.far i hic,hk]
  exact h2.jbegin (fun y hy=>by rw [hC] at hy;cases hy) (some x) (fun y hy=>by injection hy with hy;subst hy;exact hx)
theorem BI.send (h:BI b P C) (hc:c<b.n) (hp:p<b.n) (hpc:p≠c) (hu:b.upb c=true) (hrun:(b.cor c).runs=none) (xs:List Int) (hs:(((b.cor c).giv p).send xs).2=0) {k':Cor} (hB:Begun b b' c k')
  (hk1:k'.giv=upd (b.cor c).giv p (((b.cor c).giv p).send xs).1) (hk2:k'.tak=(b.cor c).tak) (hk3:k'.runs=some (.giv p)):BI b' P (upd C c (some ⟨1,p,false,0,xs,b.ep c+b.ep p⟩)):=by
 have hran:=h.ran c hc
 unfold Bd.Ran at hran
 rw [hrun] at hran
 have hC:C c=none:=hran
 obtain ⟨G,h1,h2⟩:=h.ch c p hc hp (Ne.symm hpc)
 have hm:=h.mach c p hc hp hpc hu
 rw [hu] at h1 h2
 have h0:((b.cor c).giv p).pc=0:=h2.idleg rfl (fun y hy=>by rw [hC] at hy;cases hy)
 unfold Giv.send at hs hk1
 rw [if_neg (by simpa using h0)] at hs hk1
 by_cases h8:8<xs.length
 ·rw [if_pos h8] at hs;simp at hs
 rw [if_neg h8] at hs hk1
 by_cases hw:wordsOk xs=false
 ·rw [if_pos hw] at hs;simp at hs
 rw [if_neg hw] at hs hk1
 have hw:wordsOk xs=true:=by simpa using hw
 simp only at hk1
 have hcast:xs=(xs.map Int.toNat).map (Nat.cast:Nat→Int):=(wordsOk_nats hw).symm
 refine h.begun hc hB _ ⟨rfl, .inl rfl⟩ (fun j hj hjc=> ?_) (fun i hi hic=>Begun.inner h hB hc hC _ hi hic (by rw [hk2]) (fun q=>ofG_ofT (x:=⟨1,p,false,0,xs,b.ep c+b.ep p⟩) (j:=p) ⟨rfl,rfl⟩ q)) (fun q hq hqc=> ?_) ?_
 ·by_cases e:j=p
  ·subst e
   refine ⟨G, ?_, ?_⟩
   ·rw [hB.ring,(hB.ep c).1,(hB.ep j).1,(hB.ep c).2,(hB.ep j).2,hB.own,hB.far j hjc,hk1,upd_same,hB.av,hB.bv,hu]
    exact (h1.send h0 _).more _ hB.now
   ·rw [(hB.ep c).1,(hB.ep j).1,(hB.ep c).2,(hB.ep j).2,hB.own,hB.far j hjc,hk1,upd_same,hu]
    exact h2.gbegin (fun y hy=>by rw [hC] at hy;cases hy) _ _ ⟨rfl,rfl⟩ rfl hcast rfl h0
  ·exact Begun.outer h hB hc hC _ hj hjc (by rw [hk1,upd_other _ _ _ _ e]) (fun q=>e q.2.symm)
 ·obtain ⟨n1,n2,n3,n4,n5,n6,n7,n8,n9⟩:=h.mach c q hc hq hqc hu
  by_cases e:q=p
  ·subst e
   refine ⟨?_, ?_, ?_, ?_, ?_, ?_, ?_, ?_, ?_⟩<;>rw [hB.own]<;>(first|rw [hk1,upd_same]|rw [hk2])<;>(try rw [hB.n])<;>(try rw [hB.ring])
   ·exact n1.begin xs (by omega) hw
   ·exact n2
   ·exact n3
   ·exact n4
   ·exact n5
   ·exact n6
   ·exact n7
   ·exact n8
   ·intro x hx
    have:=n9 x hx
    have:=hB.now
    omega
  ·exact (h.mach c q hc hq hqc hu).same hB.n hB.ring hB.now (by rw [hB.own,hk1,upd_other _ _ _ _ e]) (by rw [hB.own,hk2])
 ·unfold Bd.Ran
  rw [hB.own,hk3,hB.n,(hB.ep c).2,hB.entry,hB.diary]
  exact ⟨hu,hp,hpc,Nat.lt_succ_self _,_,rfl,rfl,rfl⟩
theorem BI.take (h:BI b P C) (hc:c<b.n) (hp:p<b.n) (hpc:p≠c) (hu:b.upb c=true) (hrun:(b.cor c).runs=none) (t':Tak) (x:Rec) (hx:x.ofT p) (hxf:x.fin=false) (hxl:x.link=b.ep c+b.ep p) (hxb:x.kind=3 ↔ t'.back=true) (h1p:t'.pc=1)
  (hJ:∀G,((b.cor c).tak p).pc=0→Jn b.now b.ring (b.ep p) (b.ep c) (b.upb p) true ((b.cor p).giv c) ((b.cor c).tak p) (b.av p c) (b.bv p c) G→Jn b.now b.ring (b.ep p) (b.ep c) (b.upb p) true ((b.cor p).giv c) t' (b.av p c) (b.bv p c) G)
  (hok:t'.Ok b.n (chanWords b.n b.ring)) (hkeep:t'.base=((b.cor c).tak p).base∧t'.ring=((b.cor c).tak p).ring∧t'.peer=((b.cor c).tak p).peer) (hgens:t'.tab.gens=((b.cor c).tak p).tab.gens) {k':Cor} (hB:Begun b b' c k')
  (hk1:k'.tak=upd (b.cor c).tak p t') (hk2:k'.giv=(b.cor c).giv) (hk3:k'.runs=some (.tak p)):BI b' P (upd C c (some x)):=by
 have hran:=h.ran c hc
 unfold Bd.Ran at hran
 rw [hrun] at hran
 have hC:C c=none:=hran
 obtain ⟨G,h1,h2⟩:=h.ch p c hp hc hpc
 rw [hu] at h1 h2
 have h0:((b.cor c).tak p).pc=0:=h2.idlet rfl (fun y hy=>by rw [hC] at hy;cases hy)
 refine h.begun hc hB _ ⟨hxf, .inr hx.1⟩ (fun j hj hjc=>Begun.outer h hB hc hC _ hj hjc (by rw [hk2]) (fun q=>ofG_ofT q hx)) (fun i hi hic=> ?_) (fun q hq hqc=> ?_) ?_
 ·by_cases e:i=p
  ·subst e
   refine ⟨G, ?_, ?_⟩
   ·rw [hB.ring,(hB.ep c).1,(hB.ep i).1,(hB.ep c).2,(hB.ep i).2,hB.own,hB.far i hic,hk1,upd_same,hB.av,hB.bv,hu]
    exact (hJ G h0 h1).more _ hB.now
   ·rw [(hB.ep c).1,(hB.ep i).1,(hB.ep c).2,(hB.ep i).2,hB.own,hB.far i hic,hk1,upd_same,hu]
    exact h2.tbegin (fun y hy=>by rw [hC] at hy;cases hy) x hx hxf hxb (by omega) h1p
  ·exact Begun.inner h hB hc hC _ hi hic (by rw [hk1,upd_other _ _ _ _ e]) (fun q=>e (q.2.symm.trans hx.2))
 ·obtain ⟨n1,n2,n3,n4,n5,n6,n7,n8,n9⟩:=h.mach c q hc hq hqc hu
  by_cases e:q=p
  ·subst e
   refine ⟨?_, ?_, ?_, ?_, ?_, ?_, ?_, ?_, ?_⟩<;>rw [hB.own]<;>(first|rw [hk1,upd_same]|rw [hk2])<;>(try rw [hB.n])<;>(try rw [hB.ring])
   ·exact n1
   ·exact n2
   ·exact n3
   ·exact n4
   ·exact hok
   ·rw [hkeep.1];exact n6
   ·rw [hkeep.2.1];exact n7
   ·rw [hkeep.2.2];exact n8
   ·rw [hgens]
    intro x hx
    have:=n9 x hx
    have:=hB.now
    omega
  ·exact (h.mach c q hc hq hqc hu).same hB.n hB.ring hB.now (by rw [hB.own,hk2]) (by rw [hB.own,hk1,upd_other _ _ _ _ e])
 ·unfold Bd.Ran
  rw [hB.own,hk3,hB.n,(hB.ep c).2,hB.entry,hB.diary]
  exact ⟨hu,hp,hpc,Nat.lt_succ_self _,_,rfl,hx⟩
end
section
variable {b b':Bd} {P:Nat→List Rec} {C:Nat→Option Rec} {c p:Nat}
theorem BI.recv (h:BI b P C) (hc:c<b.n) (hp:p<b.n) (hpc:p≠c) (hu:b.upb c=true) (hrun:(b.cor c).runs=none) (hs:((b.cor c).tak p).recv.2=0) {k':Cor} (hB:Begun b b' c k')
  (hk1:k'.tak=upd (b.cor c).tak p ((b.cor c).tak p).recv.1) (hk2:k'.giv=(b.cor c).giv) (hk3:k'.runs=some (.tak p)):BI b' P (upd C c (some ⟨2,p,false,0, [],b.ep c+b.ep p⟩)):=by
 have hm:=h.mach c p hc hp hpc hu
 unfold Tak.recv at hs hk1
 by_cases h0:((b.cor c).tak p).pc≠0
 ·rw [if_pos h0] at hs;simp at hs
 rw [if_neg h0] at hk1
 simp only at hk1
 exact h.take hc hp hpc hu hrun _ ⟨2,p,false,0, [],b.ep c+b.ep p⟩ ⟨.inl rfl,rfl⟩ rfl rfl (by simp [Tak.begin_]) rfl (fun G h0 hJ=>hJ.recv h0) hm.tak.recv ⟨rfl,rfl,rfl⟩ rfl hB hk1 hk2 hk3
theorem release_ok {t:Tak} {x:Int} (h:(t.release x).2=0):t.pc=0∧Grants.good t.tab x∧(t.release x).1= { ({ t with tab:=t.tab.hold (x%64).toNat false }:Tak).begin_ true with d:=(x%64).toNat }:=by
 unfold Tak.release at h ⊢
 by_cases h0:t.pc≠0
 ·rw [if_pos h0] at h;simp at h
 rw [if_neg h0] at h ⊢
 by_cases hg:Grants.good t.tab x
 ·have e1:Grants.dropR t.tab x=(t.tab.hold (x%64).toNat false,0):=by unfold Grants.dropR;rw [if_pos hg]
  have e2:(Grants.slotR t.tab x).1.toNat=(x%64).toNat:=by unfold Grants.slotR;rw [if_pos hg]
  rw [e1,e2,if_neg (by simp)]
  exact ⟨by simpa using h0,hg,rfl⟩
 ·have e1:Grants.dropR t.tab x=(t.tab,7):=by unfold Grants.dropR;rw [if_neg hg]
  rw [e1,if_pos (by simp)] at h
  simp at h
theorem BI.release (h:BI b P C) (hc:c<b.n) (hp:p<b.n) (hpc:p≠c) (hu:b.upb c=true) (hrun:(b.cor c).runs=none) (x:Int) (hs:(((b.cor c).tak p).release x).2=0) {k':Cor} (hB:Begun b b' c k')
  (hk1:k'.tak=upd (b.cor c).tak p (((b.cor c).tak p).release x).1) (hk2:k'.giv=(b.cor c).giv) (hk3:k'.runs=some (.tak p)):BI b' P (upd C c (some ⟨3,p,false,0, [],b.ep c+b.ep p⟩)):=by
 have hm:=h.mach c p hc hp hpc hu
 obtain ⟨r1,r2,r3⟩:=release_ok hs
 rw [r3] at hk1
 exact h.take hc hp hpc hu hrun _ ⟨3,p,false,0, [],b.ep c+b.ep p⟩ ⟨.inr rfl,rfl⟩ rfl rfl (by simp [Tak.begin_]) rfl (fun G h0 hJ=>hJ.release h0 x r2) (hm.tak.release x r2) ⟨rfl,rfl,rfl⟩ rfl hB hk1 hk2 hk3
theorem getD_setB (l:List Bool) (i j:Nat) (x:Bool) (h:i<l.length):(l.set i x).getD j false=if j=i then x else l.getD j false:=getD_set_bool l i j x h
theorem getD_setI (l:List Int) (i j:Nat) (x:Int) (h:i<l.length):(l.set i x).getD j 0=if j=i then x else l.getD j 0:=by
 simp only [List.getD_eq_getElem?_getD,List.getElem?_set]
 by_cases e:i=j
 ·subst e;simp [h]
 ·rw [if_neg e,if_neg (Ne.symm e)]
theorem BI.hold (h:BI b P C) (hc:c<b.n) (hu:b.upb c=true) (hn:b'.n=b.n) (hr:b'.ring=b.ring) (hnow:b.now≤b'.now) (hsc:b'.sc= { b.sc with q:=upd b.sc.q c [],g:=b.sc.g.hold c true }) (hcor:b'.cor=upd b.cor c { b.cor c with runs:=none,entry:=0 }) (hdi:b'.diary=b.diary):
  BI b' (upd P c (P c++(C c).toList)) (upd C c none):=by
 have h8:=h.n8
 have hlen:c<b.sc.g.held.length:=by rw [h.gok.lh];omega
 have hep:∀i,b'.ep i=b.ep i:=fun i=>by unfold Bd.ep;rw [hsc];rfl
 have hup:∀i,b'.upb i=if i=c then false else b.upb i:=fun i=>by
  unfold Bd.upb
  rw [hsc]
  show (!(b.sc.g.held.set c true).getD i false)=_
  rw [getD_setB _ _ _ _ hlen]
  split<;>rfl
 have hupc:b'.upb c=false:=by rw [hup,if_pos rfl]
 have hupo:∀i,i≠c→b'.upb i=b.upb i:=fun i hi=>by rw [hup,if_neg hi]
 have hfar:∀i,i≠c→b'.cor i=b.cor i:=fun i hi=>by rw [hcor,upd_other _ _ _ _ hi]
 have hown:b'.cor c= { b.cor c with runs:=none,entry:=0 }:=by rw [hcor,upd_same]
 have havo:∀i j,i≠c→b'.av i j=b.av i j:=fun i j hi=>by unfold Bd.av;rw [hn,hr,hsc];simp only [upd_other _ _ _ _ hi]
 have hbvo:∀i j,j≠c→b'.bv i j=b.bv i j:=fun i j hj=>by unfold Bd.bv;rw [hn,hr,hsc];simp only [upd_other _ _ _ _ hj]
 have havc:∀j,b'.av c j= [gview (chanBase b.n b.ring c j) b.ring b.sc.m]:=fun j=>by unfold Bd.av;rw [hn,hr,hsc];simp only [upd_same,sts,List.map_cons,List.map_nil]
 have hbvc:∀i,b'.bv i c= [tview (chanBase b.n b.ring i c) b.ring b.sc.m]:=fun i=>by unfold Bd.bv;rw [hn,hr,hsc];simp only [upd_same,sts,List.map_cons,List.map_nil]
 refine ⟨by rw [hn];exact h.n2,by rw [hn];exact h.n8,by rw [hn,hr];exact h.words,by rw [hr];exact h.r1,by rw [hr];exact h.r64,by rw [hsc];exact h.gok.hold _ _,by rw [hsc,hn];exact h.cores,by rw [hsc];exact h.wrd,fun k hk=> ?_,fun i j hi hj hij=> ?_,fun i q hi hq hqi hu2=> ?_,fun i hi=> ?_,fun i hi y hy=> ?_⟩
 ·rw [hn] at hk
  rw [hsc,hn,hr]
  intro y hy
  by_cases e:k=c
  ·subst e
   have hy:y∈upd b.sc.q k [] k:=hy
   rw [upd_same] at hy
   cases hy
  ·have hy:y∈upd b.sc.q c [] k:=hy
   rw [upd_other _ _ _ _ e] at hy
   exact h.wq k hk y hy
 ·rw [hn] at hi hj
  obtain ⟨G,h1,h2⟩:=h.ch i j hi hj hij
  by_cases ei:i=c
  ·subst ei
   refine ⟨{ G with tl:=G.ulog.length }, ?_, ?_⟩
   ·rw [hr,hep,hep,hupc,hupo j (Ne.symm hij),hown,hfar j (Ne.symm hij),havc,hbvo _ _ (Ne.symm hij)]
    exact (h1.holdA _ map_head).more _ hnow
   ·rw [hep,hep,hupc,hupo j (Ne.symm hij),hown,hfar j (Ne.symm hij),upd_same,upd_same,upd_other _ _ _ _ (Ne.symm hij),upd_other _ _ _ _ (Ne.symm hij)]
    exact h2.ihold (fun x hx=>(h.fin i hi x hx).1) ⟨rfl,rfl⟩
  ·rw [upd_other _ _ _ _ ei,upd_other _ _ _ _ ei]
   by_cases ej:j=c
   ·subst ej
    refine ⟨G, ?_, ?_⟩
    ·rw [hr,hep,hep,hupc,hupo i ei,hown,hfar i ei,havo _ _ ei,hbvc]
     exact (h1.holdB _ map_head).more _ hnow
    ·rw [hep,hep,hupc,hupo i ei,hown,hfar i ei,upd_same,upd_same]
     exact h2.jhold (fun x hx=>(h.fin j hj x hx).1)
   ·rw [upd_other _ _ _ _ ej,upd_other _ _ _ _ ej]
    exact Ch_same (h.ch i j hi hj hij) hn hr hnow (hep i) (hep j) (hupo i ei) (hupo j ej) (by rw [hfar i ei]) (by rw [hfar j ej]) (havo i j ei) (hbvo i j ej)
 ·rw [hn] at hi hq
  by_cases e:i=c
  ·subst e;rw [hupc] at hu2;cases hu2
  ·rw [hupo i e] at hu2
   exact (h.mach i q hi hq hqi hu2).same hn hr hnow (by rw [hfar i e]) (by rw [hfar i e])
 ·rw [hn] at hi
  by_cases e:i=c
  ·subst e
   unfold Bd.Ran
   rw [hown,upd_same]
  ·rw [upd_other _ _ _ _ e]
   exact Ran.same (h.ran i hi) hn (hupo i e) (by rw [hdi];exact Nat.le_refl _) (by rw [hfar i e]) (by rw [hfar i e])
 ·rw [hn] at hi
  by_cases e:i=c
  ·subst e;rw [upd_same] at hy;cases hy
  ·rw [upd_other _ _ _ _ e] at hy;exact h.fin i hi y hy
theorem BI.start (h:BI b P C) (hN:b.now<40000) (hc:c<b.n) (hu:b.upb c=false) (hn:b'.n=b.n) (hr:b'.ring=b.ring) (hnow:b'.now=b.now+1) (hsc:b'.sc= { b.sc with g:=(b.sc.g.hold c false).ep c ((b.sc.g.eps.getD c 0+1)%65536) }) (hcor:b'.cor=upd b.cor c (freshCor b.n b.ring c (b'.ep c))) (hdi:b'.diary=b.diary):
  BI b' P C∧b'.ep c=b.ep c+1∧∀i,i≠c→b'.ep i=b.ep i:=by
 have h8:=h.n8
 have hlen:c<b.sc.g.held.length:=by rw [h.gok.lh];omega
 have hlen2:c<b.sc.g.eps.length:=by rw [h.gok.le];omega
 have hepc0:=ep_of h hc
 have hfew:b.ep c≤b.now:=by
  have h2:=h.n2
  have hj:(if c=0 then 1 else 0)<b.n:=by split<;>omega
  have hjc:(if c=0 then 1 else 0)≠c:=by split<;>omega
  obtain ⟨G,h1,h2⟩:=h.ch c _ hc hj (Ne.symm hjc)
  have:=h1.lim.1
  omega
 have hep:∀i,b'.ep i=if i=c then b.ep c+1 else b.ep i:=fun i=>by
  unfold Bd.ep
  rw [hsc]
  show ((b.sc.g.eps.set c ((b.sc.g.eps.getD c 0+1)%65536)).getD i 0).toNat=_
  rw [getD_setI _ _ _ _ hlen2]
  split
  ·omega
  ·rfl
 have hup:∀i,b'.upb i=if i=c then true else b.upb i:=fun i=>by
  unfold Bd.upb
  rw [hsc]
  show (!(b.sc.g.held.set c false).getD i false)=_
  rw [getD_setB _ _ _ _ hlen]
  split<;>rfl
 have hepc:b'.ep c=b.ep c+1:=by rw [hep,if_pos rfl]
 have hepo:∀i,i≠c→b'.ep i=b.ep i:=fun i hi=>by rw [hep,if_neg hi]
 have hupc:b'.upb c=true:=by rw [hup,if_pos rfl]
 have hupo:∀i,i≠c→b'.upb i=b.upb i:=fun i hi=>by rw [hup,if_neg hi]
 have hfar:∀i,i≠c→b'.cor i=b.cor i:=fun i hi=>by rw [hcor,upd_other _ _ _ _ hi]
 have hown:b'.cor c=freshCor b.n b.ring c (b.ep c+1):=by rw [hcor,upd_same,hepc]
 have hav:∀i j,b'.av i j=b.av i j:=fun i j=>by unfold Bd.av;rw [hn,hr,hsc]
 have hbv:∀i j,b'.bv i j=b.bv i j:=fun i j=>by unfold Bd.bv;rw [hn,hr,hsc]
 have hC:C c=none:=by
  have hran:=h.ran c hc
  unfold Bd.Ran at hran
  cases hrun:(b.cor c).runs with
  | none=>rw [hrun] at hran;exact hran
  | some r=>
   rw [hrun] at hran
   cases r with
   | giv p=>have:=hran.1;rw [hu] at this;cases this
   | tak p=>have:=hran.1;rw [hu] at this;cases this
 refine ⟨⟨by rw [hn];exact h.n2,by rw [hn];exact h.n8,by rw [hn,hr];exact h.words,by rw [hr];exact h.r1,by rw [hr];exact h.r64,by rw [hsc];exact (h.gok.hold _ _).ep _ _ (by omega) (by omega),by rw [hsc,hn];exact h.cores,by rw [hsc];exact h.wrd,fun k hk=> ?_,fun i j hi hj hij=> ?_,fun i q hi hq hqi hu2=> ?_,fun i hi=> ?_,fun i hi y hy=> ?_⟩,hepc,hepo⟩
 ·rw [hn] at hk
  rw [hsc,hn,hr]
  exact h.wq k hk
 ·rw [hn] at hi hj
  obtain ⟨G,h1,h2⟩:=h.ch i j hi hj hij
  by_cases ei:i=c
  ·subst ei
   have hkn:b.upb j=true→((b.cor j).tak i).known≤(b.ep i:Int):=fun q=>by
    obtain ⟨z,hz⟩:=last_of h1.neB
    exact (h1.ti q z hz).wf.kn
   refine ⟨Gho.none_, ?_, ?_⟩
   ·rw [hr,hnow,hepc,hepo j (Ne.symm hij),hupc,hupo j (Ne.symm hij),hown,hfar j (Ne.symm hij),hav,hbv]
    exact h1.startA (newGiv_new _ _ _ _ _)
   ·rw [hepc,hepo j (Ne.symm hij),hupc,hupo j (Ne.symm hij),hown,hfar j (Ne.symm hij),hC]
    rw [hC,hu] at h2
    exact h2.istart (newGiv_new _ _ _ _ _) hkn
  ·by_cases ej:j=c
   ·subst ej
    have hkn:b.upb i=true→((b.cor i).giv j).known≤(b.ep j:Int):=fun q=>by
     obtain ⟨z,hz⟩:=last_of h1.neA
     exact (h1.gi q z hz).wf.kn
    refine ⟨Gho.none_, ?_, ?_⟩
    ·rw [hr,hnow,hepc,hepo i ei,hupc,hupo i ei,hown,hfar i ei,hav,hbv]
     exact h1.startB (newTak_new _ _ _ _ _)
    ·rw [hepc,hepo i ei,hupc,hupo i ei,hown,hfar i ei,hC]
     rw [hC,hu] at h2
     exact h2.jstart (newTak_new _ _ _ _ _) hkn
   ·exact Ch_same (h.ch i j hi hj hij) hn hr (by omega) (hepo i ei) (hepo j ej) (hupo i ei) (hupo j ej) (by rw [hfar i ei]) (by rw [hfar j ej]) (hav i j) (hbv i j)
 ·rw [hn] at hi hq
  by_cases e:i=c
  ·subst e
   have hb1:=chanBase_le (n:=b.n) (ring:=b.ring) hi hq (Ne.symm hqi)
   have hb2:=chanBase_le (n:=b.n) (ring:=b.ring) hq hi hqi
   have hw:=h.words
   refine ⟨?_, ?_, ?_, ?_, ?_, ?_, ?_, ?_, ?_⟩<;>rw [hown]<;>(try rw [hn])<;>(try rw [hr])
   ·exact newGiv_ok h.r1 h.r64 hq (by omega) hb1 hw
   ·rfl
   ·rfl
   ·rfl
   ·exact newTak_ok h.r1 h.r64 hq (by omega) hb2 hw
   ·rfl
   ·rfl
   ·rfl
   ·intro x hx
    have:x=0:=by
     have hx:x∈List.replicate 64 (0:Int):=hx
     exact (List.mem_replicate.1 hx).2
    omega
  ·rw [hupo i e] at hu2
   exact (h.mach i q hi hq hqi hu2).same hn hr (by omega) (by rw [hfar i e]) (by rw [hfar i e])
 ·rw [hn] at hi
  by_cases e:i=c
  ·subst e
   unfold Bd.Ran
   rw [hown]
   exact hC
  ·exact Ran.same (h.ran i hi) hn (hupo i e) (by rw [hdi];exact Nat.le_refl _) (by rw [hfar i e]) (by rw [hfar i e])
 ·rw [hn] at hi
  exact h.fin i hi y hy
end
def Ent.rec_ (x:Ent) (l:Nat):Rec:=⟨x.kind,x.peer,decide (x.fin≠0),x.err,x.load,l⟩
def recsOf (c:Nat) (d:List (Ent × Nat)):List Rec:=d.filterMap fun x=>if x.1.core=c then some (x.1.rec_ x.2) else none
theorem recsOf_append (c:Nat) (d e:List (Ent × Nat)):recsOf c (d++e)=recsOf c d++recsOf c e:=by unfold recsOf;rw [List.filterMap_append]
theorem recsOf_one (c:Nat) (x:Ent × Nat):recsOf c [x]=if x.1.core=c then [x.1.rec_ x.2] else []:=by
 unfold recsOf
 by_cases h:x.1.core=c
 ·rw [if_pos h,List.filterMap_cons_some (by rw [if_pos h])];rfl
 ·rw [if_neg h,List.filterMap_cons_none (by rw [if_neg h])];rfl
theorem recsOf_none (c:Nat) (d:List (Ent × Nat)) (h:∀x∈d,x.1.core≠c):recsOf c d= []:=by
 unfold recsOf
 rw [List.filterMap_eq_nil_iff]
 intro x hx
 exact if_neg (h x hx)
theorem split_at {α : Type} (d:List α) (k:Nat) (hk:k<d.length):d=d.take k++(d[k] :: d.drop (k+1)):=by
 rw [List.getElem_cons_drop hk,List.take_append_drop]
theorem set_at {α : Type} (d:List α) (k:Nat) (hk:k<d.length) (y: α):d.set k y=d.take k++(y :: d.drop (k+1)):=by
 rw [List.set_eq_take_append_cons_drop,if_pos hk]
theorem recsOf_set (c:Nat) (d:List (Ent × Nat)) (k:Nat) (hk:k<d.length) (h1:d[k].1.core=c) (h2:∀j (hj:j<d.length),k<j→d[j].1.core≠c) (y:Ent × Nat) (hy:y.1.core=c):
  ∃Q,recsOf c d=Q ++ [d[k].1.rec_ d[k].2]∧recsOf c (d.set k y)=Q ++ [y.1.rec_ y.2]:=by
 have h3:recsOf c (d.drop (k+1))= []:=by
  refine recsOf_none _ _ fun x hx=> ?_
  obtain ⟨j,hj,rfl⟩:=List.getElem_of_mem hx
  rw [List.length_drop] at hj
  rw [List.getElem_drop]
  exact h2 _ (by omega) (by omega)
 refine ⟨recsOf c (d.take k), ?_, ?_⟩
 ·conv=>lhs;rw [split_at d k hk]
  rw [recsOf_append, ←List.singleton_append,recsOf_append,recsOf_one,if_pos h1,h3,List.append_nil]
 ·rw [set_at d k hk,recsOf_append, ←List.singleton_append,recsOf_append,recsOf_one,if_pos hy,h3,List.append_nil]
theorem recsOf_set_other (c:Nat) (d:List (Ent × Nat)) (k:Nat) (hk:k<d.length) (h1:d[k].1.core≠c) (y:Ent × Nat) (hy:y.1.core≠c):recsOf c (d.set k y)=recsOf c d:=by
 conv=>rhs;rw [split_at d k hk]
 rw [set_at d k hk,recsOf_append,recsOf_append, ←List.singleton_append, ←List.singleton_append (x:=d[k]),recsOf_append,recsOf_append,recsOf_one,recsOf_one,if_neg h1,if_neg hy]
structure DR (b:Bd) (L:List Nat) (P:Nat→List Rec) (C:Nat→Option Rec):Prop where
 len:L.length=b.diary.length
 recs:∀c,c<b.n→recsOf c (b.diary.zip L)=P c++(C c).toList
 run:∀c,c<b.n→(b.cor c).runs.isSome=true→∃h:(b.cor c).entry<b.diary.length,b.diary[(b.cor c).entry].core=c∧∀j (hj:j<b.diary.length),(b.cor c).entry<j→b.diary[j].core≠c
theorem zip_set {d:List Ent} {L:List Nat} (hl:L.length=d.length) (k:Nat) (hk:k<d.length) (y:Ent):(d.set k y).zip L=(d.zip L).set k (y,L[k]'(by omega)):=by
 apply List.ext_getElem
 ·simp
 ·intro i h1 h2
  by_cases e:i=k
  ·subst e;simp
  ·rw [List.getElem_zip,List.getElem_set_ne (by omega),List.getElem_set_ne (by omega),List.getElem_zip]
section
variable {b b':Bd} {P:Nat→List Rec} {C:Nat→Option Rec} {L:List Nat} {c:Nat}
theorem DR.last (h:DR b L P C) (hc:c<b.n) (hrun:(b.cor c).runs.isSome=true) (x:Rec) (hx:C c=some x):∃hk:(b.cor c).entry<b.diary.length,x=b.diary[(b.cor c).entry].rec_ (L[(b.cor c).entry]'(by rw [h.len];exact hk)):=by
 obtain ⟨hk,h1,h2⟩:=h.run c hc hrun
 refine ⟨hk, ?_⟩
 have hz:(b.cor c).entry<(b.diary.zip L).length:=by rw [List.length_zip,h.len];simpa using hk
 obtain ⟨Q,q1,_⟩:=recsOf_set c (b.diary.zip L) _ hz (by simpa using h1) (fun j hj hlt=>by simp at hj;simpa using h2 j (by omega) hlt) ((b.diary.zip L)[(b.cor c).entry]) (by simpa using h1)
 have:=h.recs c hc
 rw [q1,hx] at this
 have:=(List.append_inj' this rfl).2
 simpa using this.symm
theorem DR.over (h:DR b L P C) (hc:c<b.n) (hrun:(b.cor c).runs.isSome=true) (x:Rec) (hx:C c=some x) (y:Ent) (hy:y.core=c) (hn:b'.n=b.n) (hd:b'.diary=b.diary.set (b.cor c).entry y) (hcor:∀i,i≠c→b'.cor i=b.cor i) (hr:(b'.cor c).runs=none):
  ∃hk:(b.cor c).entry<b.diary.length,DR b' L (upd P c (P c ++ [y.rec_ (L[(b.cor c).entry]'(by rw [h.len];exact hk))])) (upd C c none):=by
 obtain ⟨hk,h1,h2⟩:=h.run c hc hrun
 refine ⟨hk,by rw [hd,List.length_set];exact h.len,fun i hi=> ?_,fun i hi hri=> ?_⟩
 ·rw [hn] at hi
  rw [hd,zip_set h.len _ hk]
  have hz:(b.cor c).entry<(b.diary.zip L).length:=by rw [List.length_zip,h.len];simpa using hk
  by_cases e:i=c
  ·subst e
   obtain ⟨Q,q1,q2⟩:=recsOf_set i (b.diary.zip L) _ hz (by simpa using h1) (fun j hj hlt=>by simp at hj;simpa using h2 j (by omega) hlt) (y,L[(b.cor i).entry]'(by rw [h.len];exact hk)) hy
   have:=h.recs i hi
   rw [q1,hx] at this
   have:=(List.append_inj' this rfl).1
   rw [q2,upd_same,upd_same,this]
   simp
  ·rw [upd_other _ _ _ _ e,upd_other _ _ _ _ e,recsOf_set_other i _ _ hz (by simp [h1];exact fun q=>e q.symm) _ (by rw [hy];exact fun q=>e q.symm)]
   exact h.recs i hi
 ·rw [hn] at hi
  by_cases e:i=c
  ·subst e;rw [hr] at hri;cases hri
  ·rw [hcor i e] at hri ⊢
   obtain ⟨hk2,g1,g2⟩:=h.run i hi hri
   refine ⟨by rw [hd,List.length_set];exact hk2, ?_,fun j hj hlt=> ?_⟩
   ·simp only [hd]
    rw [List.getElem_set_ne (by
     intro q
     have:b.diary[(b.cor c).entry].core=b.diary[(b.cor i).entry].core:=by simp only [q]
     omega)]
    exact g1
   ·simp only [hd,List.length_set] at hj ⊢
    by_cases ej:(b.cor c).entry=j
    ·subst ej
     rw [List.getElem_set_self,hy]
     exact fun q=>e q.symm
    ·rw [List.getElem_set_ne ej]
     exact g2 j hj hlt
theorem DR.still (h:DR b L P C) (hn:b'.n=b.n) (hd:b'.diary=b.diary) (hcor:∀i,i<b.n→(b'.cor i).runs.isSome=true→(b.cor i).runs.isSome=true∧(b'.cor i).entry=(b.cor i).entry):DR b' L P C:=by
 refine ⟨by rw [hd];exact h.len,fun i hi=>by rw [hn] at hi;rw [hd];exact h.recs i hi,fun i hi hri=> ?_⟩
 rw [hn] at hi
 obtain ⟨hk,g1,g2⟩:=h.run i hi (hcor i hi hri).1
 rw [(hcor i hi hri).2]
 simp only [hd]
 exact ⟨hk,g1,g2⟩
theorem DR.begun (h:DR b L P C) (hc:c<b.n) (hC:C c=none) {k':Cor} (hB:Begun b b' c k') (y:Ent) (hy:y.core=c) (hd:b'.diary=b.diary ++ [y]) (l:Nat):DR b' (L ++ [l]) P (upd C c (some (y.rec_ l))):=by
 refine ⟨by rw [hd,List.length_append,List.length_append,h.len];rfl,fun i hi=> ?_,fun i hi hri=> ?_⟩
 ·rw [hB.n] at hi
  rw [hd,List.zip_append h.len.symm,List.zip_cons_cons,List.zip_nil_left,recsOf_append,h.recs i hi,recsOf_one]
  by_cases e:i=c
  ·subst e
   rw [upd_same,hC,if_pos hy]
   simp
  ·rw [upd_other _ _ _ _ e,if_neg (by rw [hy];exact fun q=>e q.symm)]
   simp
 ·rw [hB.n] at hi
  by_cases e:i=c
  ·subst e
   rw [hB.own,hB.entry]
   refine ⟨by rw [hd];simp, ?_,fun j hj hlt=> ?_⟩
   ·simp only [hd]
    rw [List.getElem_append_right (Nat.le_refl _)]
    simp [hy]
   ·simp only [hd,List.length_append,List.length_cons,List.length_nil] at hj
    omega
  ·rw [hB.far i e] at hri ⊢
   obtain ⟨hk,g1,g2⟩:=h.run i hi hri
   refine ⟨by rw [hd,List.length_append];omega, ?_,fun j hj hlt=> ?_⟩
   ·simp only [hd]
    rw [List.getElem_append_left hk]
    exact g1
   ·simp only [hd] at hj ⊢
    by_cases hj2:j<b.diary.length
    ·rw [List.getElem_append_left hj2];exact g2 j hj2 hlt
    ·rw [List.getElem_append_right (by omega)]
     have:j-b.diary.length=0:=by rw [List.length_append] at hj;simp at hj;omega
     simp only [this,List.getElem_cons_zero,hy]
     exact fun q=>e q.symm
theorem DR.drop (h:DR b L P C) (hn:b'.n=b.n) (hd:b'.diary=b.diary) (hcor:∀i,i≠c→b'.cor i=b.cor i) (hr:(b'.cor c).runs=none):DR b' L (upd P c (P c++(C c).toList)) (upd C c none):=by
 refine ⟨by rw [hd];exact h.len,fun i hi=> ?_,fun i hi hri=> ?_⟩
 ·rw [hn] at hi
  rw [hd,h.recs i hi]
  by_cases e:i=c
  ·subst e;rw [upd_same,upd_same];simp
  ·rw [upd_other _ _ _ _ e,upd_other _ _ _ _ e]
 ·rw [hn] at hi
  by_cases e:i=c
  ·subst e;rw [hr] at hri;cases hri
  ·rw [hcor i e] at hri ⊢
   obtain ⟨hk,g1,g2⟩:=h.run i hi hri
   simp only [hd]
   exact ⟨hk,g1,g2⟩
end
def seenF (from_ into link:Nat) (s:Loads × Loads × Loads) (x:Ent × Nat):Loads × Loads × Loads:=
 if x.2≠link then s
 else if x.1.kind=1∧x.1.core=from_∧x.1.peer=into∧x.1.fin≠0∧x.1.err=0 then (s.1 ++ [x.1.load], [],s.2.2)
 else if x.1.kind=1∧x.1.core=from_∧x.1.peer=into∧(x.1.fin=0∨x.1.err=8) then (s.1,s.2.1 ++ [x.1.load],s.2.2)
 else if x.1.kind=2∧x.1.core=into∧x.1.peer=from_∧x.1.fin≠0∧x.1.err=0 then (s.1,s.2.1,s.2.2 ++ [x.1.load])
 else s
def seenOf (from_ into link:Nat) (d:List (Ent × Nat)):Loads × Loads × Loads:=d.foldl (seenF from_ into link) ([], [], [])
def beginning (sent more got:Loads):Prop:=∀i,i<got.length→if i<sent.length then got.getD i []=sent.getD i [] else i≤sent.length∧got.getD i []∈more
theorem seenOf_recs (i j L:Nat) (hij:i≠j) (d:List (Ent × Nat)):seenOf i j L d=((sentOf j L (recsOf i d)).1,(sentOf j L (recsOf i d)).2,gotOf i L (recsOf j d)):=by
 suffices h:∀(d:List (Ent × Nat)) (d0:List (Ent × Nat)),seenOf i j L d0=((sentOf j L (recsOf i d0)).1,(sentOf j L (recsOf i d0)).2,gotOf i L (recsOf j d0))→seenOf i j L (d0++d)=((sentOf j L (recsOf i (d0++d))).1,(sentOf j L (recsOf i (d0++d))).2,gotOf i L (recsOf j (d0++d))) by
  simpa using h d [] rfl
 intro d
 induction d with
 | nil=>intro d0 h;simpa using h
 | cons x d ih=>
  intro d0 h
  have:=ih (d0 ++ [x]) ?_
  ·simpa using this
  unfold seenOf at h ⊢
  rw [List.foldl_append,h]
  simp only [List.foldl_cons,List.foldl_nil]
  rw [recsOf_append,recsOf_append,recsOf_one,recsOf_one]
  by_cases hL:x.2=L
  ·by_cases hi:x.1.core=i
   ·have hj:x.1.core≠j:=by rw [hi];exact hij
    rw [if_pos hi,if_neg hj,sentOf_push,List.append_nil]
    by_cases h1:x.1.kind=1∧x.1.peer=j
    ·have hs:(x.1.rec_ x.2).isSend j L:=⟨hL,h1.1,h1.2⟩
     by_cases h2:x.1.fin≠0∧x.1.err=0
     ·have r1:sentF j L (sentOf j L (recsOf i d0)) (x.1.rec_ x.2)=((sentOf j L (recsOf i d0)).1 ++ [x.1.load], []):=by
       unfold sentF;rw [if_pos hs,if_pos (by simpa [Ent.rec_] using h2)];rfl
      rw [r1]
      unfold seenF
      rw [if_neg (by simpa using hL),if_pos ⟨h1.1,hi,h1.2,h2⟩]
     ·by_cases h3:x.1.fin=0∨x.1.err=8
      ·have r1:sentF j L (sentOf j L (recsOf i d0)) (x.1.rec_ x.2)=((sentOf j L (recsOf i d0)).1,(sentOf j L (recsOf i d0)).2 ++ [x.1.load]):=by
        unfold sentF;rw [if_pos hs,if_neg (by simpa [Ent.rec_] using h2),if_pos (by simpa [Ent.rec_] using h3)];rfl
       rw [r1]
       unfold seenF
       rw [if_neg (by simpa using hL),if_neg (by intro q;exact h2 ⟨q.2.2.2.1,q.2.2.2.2⟩),if_pos ⟨h1.1,hi,h1.2,h3⟩]
      ·have r1:sentF j L (sentOf j L (recsOf i d0)) (x.1.rec_ x.2)=sentOf j L (recsOf i d0):=by
        unfold sentF;rw [if_pos hs,if_neg (by simpa [Ent.rec_] using h2),if_neg (by simpa [Ent.rec_] using h3)]
       rw [r1]
       unfold seenF
       rw [if_neg (by simpa using hL),if_neg (by intro q;exact h2 ⟨q.2.2.2.1,q.2.2.2.2⟩),if_neg (by intro q;exact h3 q.2.2.2),if_neg (by intro q;exact hj q.2.1)]
    ·have r1:sentF j L (sentOf j L (recsOf i d0)) (x.1.rec_ x.2)=sentOf j L (recsOf i d0):=by
      unfold sentF;rw [if_neg (by intro q;exact h1 ⟨q.2.1,q.2.2⟩)]
     rw [r1]
     unfold seenF
     rw [if_neg (by simpa using hL),if_neg (by intro q;exact h1 ⟨q.1,q.2.2.1⟩),if_neg (by intro q;exact h1 ⟨q.1,q.2.2.1⟩),if_neg (by intro q;exact hj q.2.1)]
   ·rw [if_neg hi,List.append_nil]
    by_cases hj:x.1.core=j
    ·rw [if_pos hj,gotOf_push]
     by_cases h1:x.1.kind=2∧x.1.peer=i∧x.1.fin≠0∧x.1.err=0
     ·rw [if_pos ⟨hL,h1.1,h1.2.1,by simpa [Ent.rec_] using h1.2.2.1,h1.2.2.2⟩]
      unfold seenF
      rw [if_neg (by simpa using hL),if_neg (by intro q;exact hi q.2.1),if_neg (by intro q;exact hi q.2.1),if_pos ⟨h1.1,hj,h1.2⟩]
      rfl
     ·rw [if_neg (by intro q;exact h1 ⟨q.2.1,q.2.2.1,by simpa [Ent.rec_] using q.2.2.2.1,q.2.2.2.2⟩)]
      unfold seenF
      rw [if_neg (by simpa using hL),if_neg (by intro q;exact hi q.2.1),if_neg (by intro q;exact hi q.2.1),if_neg (by intro q;exact h1 ⟨q.1,q.2.2⟩)]
    ·rw [if_neg hj,List.append_nil]
     unfold seenF
     rw [if_neg (by simpa using hL),if_neg (by intro q;exact hi q.2.1),if_neg (by intro q;exact hi q.2.1),if_neg (by intro q;exact hj q.2.1)]
  ·have l1:∀s,seenF i j L s x=s:=fun s=>by unfold seenF;exact if_pos hL
   rw [l1]
   by_cases hi:x.1.core=i
   ·rw [if_pos hi,sentOf_push,if_neg (by rw [hi];exact hij),List.append_nil]
    unfold sentF
    rw [if_neg (by intro q;exact hL q.1)]
   ·rw [if_neg hi,List.append_nil]
    by_cases hj:x.1.core=j
    ·rw [if_pos hj,gotOf_push,if_neg (by intro q;exact hL q.1)]
    ·rw [if_neg hj,List.append_nil]
theorem DL.beginning {i j L:Nat} {ll:Loads} {s g:Nat} {pi pj:List Rec} {sr more:Loads} (h:DL i j L ll s g pi pj sr) (hm:∀y∈(sentOf j L pi).2++sr,y∈more):beginning (sentOf j L pi).1 more (gotOf i L pj):=by
 rw [h.sent,h.got]
 intro k hk
 rw [List.length_take] at hk
 have hle:=h.le
 have hmo:=h.more
 have e1:(ll.take g).getD k []=ll.getD k []:=by
  simp only [List.getD_eq_getElem?_getD,List.getElem?_take]
  rw [if_pos (by omega)]
 rw [e1,List.length_take]
 by_cases hks:k<s
 ·rw [if_pos (by omega)]
  simp only [List.getD_eq_getElem?_getD,List.getElem?_take]
  rw [if_pos hks]
 ·rw [if_neg (by omega)]
  rcases hmo with q|⟨q1,q2⟩
  ·omega
  ·have e:k=s:=by omega
   subst e
   exact ⟨by omega,hm _ q2⟩
theorem BI.beginning {b:Bd} {P:Nat→List Rec} {C:Nat→Option Rec} {Ls:List Nat} (h:BI b P C) (hd:DR b Ls P C) {i j:Nat} (hi:i<b.n) (hj:j<b.n) (hij:i≠j) (L:Nat):
  beginning (seenOf i j L (b.diary.zip Ls)).1 (seenOf i j L (b.diary.zip Ls)).2.1 (seenOf i j L (b.diary.zip Ls)).2.2:=by
 rw [seenOf_recs i j L hij,hd.recs i hi,hd.recs j hj]
 simp only
 obtain ⟨G,h1,h2⟩:=h.ch i j hi hj hij
 have hdl:∃ll s g,DL i j L ll s g (P i) (P j) (srOf j L ((b.cor i).giv j) (C i)):=by
  rcases Nat.lt_trichotomy L (b.ep i+b.ep j) with q|q|q
  ·exact h2.old L q
  ·obtain ⟨s,q2,_⟩:=h2.now
   subst q
   exact ⟨_,s,_,q2⟩
  ·refine ⟨[],0,0, ?_,Nat.le_refl _, .inl (Nat.le_refl _), ?_⟩
   ·rw [sentOf_new (fun x hx hxj=>by have:=h2.lki x hx hxj;omega)];rfl
   ·rw [gotOf_new (fun x hx hxj=>by have:=h2.lkj x hx hxj;omega)];rfl
 obtain ⟨ll,s,g,hdl⟩:=hdl
 have e2:gotOf i L (P j++(C j).toList)=gotOf i L (P j):=by
  cases hC:C j with
  | none=>simp
  | some x=>
   rw [Option.toList_some,gotOf_push,if_neg (fun q=>by have:=(h.fin j hj x hC).1;have q2:=q.2.2.2.1;rw [this] at q2;cases q2)]
 have e1:(sentOf j L (P i++(C i).toList)).1=(sentOf j L (P i)).1∧∀y∈(sentOf j L (P i)).2++srOf j L ((b.cor i).giv j) (C i),y∈(sentOf j L (P i++(C i).toList)).2:=by
  cases hC:C i with
  | none=>
   rw [Option.toList_none,List.append_nil]
   exact ⟨rfl,fun y hy=>by simpa [srOf] using hy⟩
  | some x=>
   have hf:=(h.fin i hi x hC).1
   rw [Option.toList_some,sentOf_push]
   unfold sentF srOf
   simp only
   by_cases hs:x.isSend j L
   ·rw [if_pos hs,if_neg (fun q=>by rw [hf] at q;cases q.1),if_pos (.inl hf)]
    refine ⟨rfl,fun y hy=> ?_⟩
    rcases List.mem_append.1 hy with hy|hy
    ·exact List.mem_append_left _ hy
    ·refine List.mem_append_right _ ?_
     split at hy
     ·exact hy
     ·cases hy
   ·rw [if_neg hs,if_neg (fun q=>hs q.1)]
    exact ⟨rfl,fun y hy=>by simpa using hy⟩
 rw [e2,e1.1]
 exact hdl.beginning e1.2
def Good (b:Bd) (L:List Nat):Prop:=∃P C,BI b P C∧DR b L P C
section
variable {b:Bd} {L:List Nat} {c:Nat}
theorem upb_up (b:Bd) (c:Nat):b.upb c=true ↔ b.up c:=by unfold Bd.upb Bd.up;simp
theorem Good.step (h:Good b L) (hN:b.now<40000) (hc:c<b.n) (hu:b.upb c=true):Good (({ b with now:=b.now+1 }:Bd).step c).1 L:=by
 obtain ⟨P,C,hI,hD⟩:=h
 unfold Bd.step
 cases hrun:(b.cor c).runs with
 | none=>
  simp only [hrun]
  exact ⟨P,C,hI.tick,hD.still rfl rfl (fun i hi q=>⟨q,rfl⟩)⟩
 | some r=>
  cases r with
  | giv p=>
   simp only [hrun]
   generalize ho:((b.cor c).giv p).go (b.sc.tch b.most c ((b.cor c).giv p).tch).2=o
   have hsome:(b.cor c).runs.isSome=true:=by rw [hrun];rfl
   by_cases hdn:o.2.1=true
   ·rw [if_pos hdn]
    obtain ⟨x,hx,hxp,_,hres⟩:=hI.stepG (b':= { ((({ b with now:=b.now+1 }:Bd).setSc (b.sc.tch b.most c ((b.cor c).giv p).tch).1).setCor c { b.cor c with giv:=upd (b.cor c).giv p o.1,runs:=none }) with diary:=({ b with now:=b.now+1 }:Bd).fin (b.cor c).entry o.2.2 }) hN hc hrun ho.symm ⟨rfl,rfl,rfl,rfl,rfl,by simp [Bd.fin]⟩ rfl rfl rfl (by rw [if_pos hdn])
    have hres:=hres hdn
    obtain ⟨hk,hlast⟩:=hD.last hc hsome x hx
    have hcore:(b.diary.getD (b.cor c).entry Ent.none_).core=c:=by
     obtain ⟨hk2,h1,_⟩:=hD.run c hc hsome
     simpa [List.getD,hk2] using h1
    have hg:b.diary.getD (b.cor c).entry Ent.none_=b.diary[(b.cor c).entry]:=by simp [List.getD,hk]
    obtain ⟨_,hov⟩:=hD.over (b':= { ((({ b with now:=b.now+1 }:Bd).setSc (b.sc.tch b.most c ((b.cor c).giv p).tch).1).setCor c { b.cor c with giv:=upd (b.cor c).giv p o.1,runs:=none }) with diary:=({ b with now:=b.now+1 }:Bd).fin (b.cor c).entry o.2.2 }) hc hsome x hx { b.diary.getD (b.cor c).entry Ent.none_ with fin:=b.now+1,err:=o.2.2 } hcore rfl rfl (fun i hi=>upd_other _ _ _ _ hi) (by show (upd b.cor c _ c).runs=none;rw [upd_same])
    refine ⟨_,_,hres, ?_⟩
    rw [hg] at hov
    rw [hlast]
    exact hov
   ·rw [if_neg hdn]
    obtain ⟨x,hx,hxp,hres,_⟩:=hI.stepG (b':=(({ b with now:=b.now+1 }:Bd).setSc (b.sc.tch b.most c ((b.cor c).giv p).tch).1).setCor c { b.cor c with giv:=upd (b.cor c).giv p o.1,runs:=some (.giv p) }) hN hc hrun ho.symm ⟨rfl,rfl,rfl,rfl,rfl,rfl⟩ rfl rfl rfl (by rw [if_neg hdn])
    refine ⟨P,C, ?_, ?_⟩
    ·have:=hres (by simpa using hdn)
     simpa only [hrun] using this
    ·refine hD.still rfl rfl (fun i hi q=> ?_)
     by_cases e:i=c
     ·subst e
      simp only [Bd.setCor,Bd.setSc,upd_same]
      exact ⟨hsome,by first|rfl|trivial⟩
     ·simp only [Bd.setCor,Bd.setSc,upd_other _ _ _ _ e] at q ⊢
      exact ⟨q,by first|rfl|trivial⟩
  | tak p=>
   simp only [hrun]
   generalize ho:((b.cor c).tak p).go (b.sc.tch b.most c ((b.cor c).tak p).tch).2=o
   have hsome:(b.cor c).runs.isSome=true:=by rw [hrun];rfl
   by_cases hdn:o.2.1=true
   ·rw [if_pos hdn]
    obtain ⟨x,hx,hxp,_,hres⟩:=hI.stepT (b':= { ((({ b with now:=b.now+1 }:Bd).setSc (b.sc.tch b.most c ((b.cor c).tak p).tch).1).setCor c { b.cor c with tak:=upd (b.cor c).tak p o.1,runs:=none }) with diary:=({ b with now:=b.now+1 }:Bd).finT (b.cor c).entry o.2.2 o.1.gotR }) hN hc hrun ho.symm ⟨rfl,rfl,rfl,rfl,rfl,by simp [Bd.finT]⟩ rfl rfl rfl (by rw [if_pos hdn])
    have hres:=hres hdn
    obtain ⟨hk,hlast⟩:=hD.last hc hsome x hx
    have hcore:(b.diary.getD (b.cor c).entry Ent.none_).core=c:=by
     obtain ⟨hk2,h1,_⟩:=hD.run c hc hsome
     simpa [List.getD,hk2] using h1
    have hg:b.diary.getD (b.cor c).entry Ent.none_=b.diary[(b.cor c).entry]:=by simp [List.getD,hk]
    generalize hy:(if (b.diary.getD (b.cor c).entry Ent.none_).kind=2∧o.2.2=0 then { b.diary.getD (b.cor c).entry Ent.none_ with fin:=b.now+1,err:=o.2.2,load:=o.1.gotR.1.map (Nat.cast:Nat→Int),handle:=o.1.gotR.2 } else { b.diary.getD (b.cor c).entry Ent.none_ with fin:=b.now+1,err:=o.2.2 })=y
    have hyc:y.core=c:=by rw [←hy];split<;>exact hcore
    have hb':({ ((({ b with now:=b.now+1 }:Bd).setSc (b.sc.tch b.most c ((b.cor c).tak p).tch).1).setCor c { b.cor c with tak:=upd (b.cor c).tak p o.1,runs:=none }) with diary:=({ b with now:=b.now+1 }:Bd).finT (b.cor c).entry o.2.2 o.1.gotR }:Bd).diary=b.diary.set (b.cor c).entry y:=by rw [←hy];rfl
    obtain ⟨_,hov⟩:=hD.over (b':= { ((({ b with now:=b.now+1 }:Bd).setSc (b.sc.tch b.most c ((b.cor c).tak p).tch).1).setCor c { b.cor c with tak:=upd (b.cor c).tak p o.1,runs:=none }) with diary:=({ b with now:=b.now+1 }:Bd).finT (b.cor c).entry o.2.2 o.1.gotR }) hc hsome x hx y hyc rfl hb' (fun i hi=>upd_other _ _ _ _ hi) (by show (upd b.cor c _ c).runs=none;rw [upd_same])
    refine ⟨_,_,hres (y.rec_ (L[(b.cor c).entry]'(by rw [hD.len];exact hk))) ?_ ?_ ?_ ?_ ?_ ?_,hov⟩
    ·rw [hlast, ←hg, ←hy];simp only [Ent.rec_];split<;>rfl
    ·rw [hlast, ←hg, ←hy];simp only [Ent.rec_];split<;>rfl
    ·rw [←hy];simp only [Ent.rec_];split<;>simp
    ·rw [←hy];simp only [Ent.rec_];split<;>rfl
    ·rw [hlast];rfl
    ·intro k2 e0
     rw [hlast, ←hg] at k2
     rw [←hy]
     rw [if_pos ⟨k2,e0⟩]
     rfl
   ·rw [if_neg hdn]
    obtain ⟨x,hx,hxp,hres,_⟩:=hI.stepT (b':=(({ b with now:=b.now+1 }:Bd).setSc (b.sc.tch b.most c ((b.cor c).tak p).tch).1).setCor c { b.cor c with tak:=upd (b.cor c).tak p o.1,runs:=some (.tak p) }) hN hc hrun ho.symm ⟨rfl,rfl,rfl,rfl,rfl,rfl⟩ rfl rfl rfl (by rw [if_neg hdn])
    refine ⟨P,C, ?_, ?_⟩
    ·have:=hres (by simpa using hdn)
     simpa only [hrun] using this
    ·refine hD.still rfl rfl (fun i hi q=> ?_)
     by_cases e:i=c
     ·subst e
      simp only [Bd.setCor,Bd.setSc,upd_same]
      exact ⟨hsome,by first|rfl|trivial⟩
     ·simp only [Bd.setCor,Bd.setSc,upd_other _ _ _ _ e] at q ⊢
      exact ⟨q,by first|rfl|trivial⟩
theorem Good.call (h:Good b L) (hN:b.now<40000) {p:Nat} (hc:c<b.n) (hp:p<b.n) (hpc:p≠c) (hu:b.upb c=true) (hrun:(b.cor c).runs=none) (x:Ev):Good (({ b with now:=b.now+1 }:Bd).call x c p).1 (if (({ b with now:=b.now+1 }:Bd).call x c p).2=0 then L ++ [b.ep c+b.ep p] else L):=by
 obtain ⟨P,C,hI,hD⟩:=h
 have hran:=hI.ran c hc
 unfold Bd.Ran at hran
 rw [hrun] at hran
 have hC:C c=none:=hran
 have hstill:Good ({ b with now:=b.now+1 }:Bd) L:=⟨P,C,hI.tick,hD.still rfl rfl (fun i hi q=>⟨q,rfl⟩)⟩
 unfold Bd.call
 by_cases h3:x.kind=3
 ·simp only [h3,if_true]
  by_cases he:(((b.cor c).giv p).send x.load).2=0
  ·rw [if_neg (by simpa using he)]
   simp only [if_true]
   have hB:Begun b { (({ b with now:=b.now+1 }:Bd).setCor c { b.cor c with giv:=upd (b.cor c).giv p (((b.cor c).giv p).send x.load).1,runs:=some (.giv p),entry:=b.diary.length }) with diary:=b.diary ++ [⟨c,p,1,b.now+1,0,0,x.load,0⟩] } c { b.cor c with giv:=upd (b.cor c).giv p (((b.cor c).giv p).send x.load).1,runs:=some (.giv p),entry:=b.diary.length }:=⟨rfl,rfl,Nat.le_succ _,rfl,rfl,rfl,by simp⟩
   exact ⟨P,_,hI.send hc hp hpc hu hrun x.load he hB rfl rfl rfl,hD.begun hc hC hB _ rfl rfl _⟩
  ·rw [if_pos (by simpa using he)]
   simp only
   rw [if_neg he]
   exact hstill
 ·simp only [h3,if_false]
  by_cases h4:x.kind=4
  ·simp only [h4,if_true]
   by_cases he:((b.cor c).tak p).recv.2=0
   ·rw [if_neg (by simpa using he)]
    simp only [if_true]
    have hB:Begun b { (({ b with now:=b.now+1 }:Bd).setCor c { b.cor c with tak:=upd (b.cor c).tak p ((b.cor c).tak p).recv.1,runs:=some (.tak p),entry:=b.diary.length }) with diary:=b.diary ++ [⟨c,p,2,b.now+1,0,0, [],0⟩] } c { b.cor c with tak:=upd (b.cor c).tak p ((b.cor c).tak p).recv.1,runs:=some (.tak p),entry:=b.diary.length }:=⟨rfl,rfl,Nat.le_succ _,rfl,rfl,rfl,by simp⟩
    exact ⟨P,_,hI.recv hc hp hpc hu hrun he hB rfl rfl rfl,hD.begun hc hC hB _ rfl rfl _⟩
   ·rw [if_pos (by simpa using he)]
    simp only
    rw [if_neg he]
    exact hstill
  ·simp only [h4,if_false]
   by_cases he:(((b.cor c).tak p).release x.handle).2=0
   ·rw [if_neg (by simpa using he)]
    simp only [if_true]
    have hB:Begun b { (({ b with now:=b.now+1 }:Bd).setCor c { b.cor c with tak:=upd (b.cor c).tak p (((b.cor c).tak p).release x.handle).1,runs:=some (.tak p),entry:=b.diary.length }) with diary:=b.diary ++ [⟨c,p,3,b.now+1,0,0, [],x.handle⟩] } c { b.cor c with tak:=upd (b.cor c).tak p (((b.cor c).tak p).release x.handle).1,runs:=some (.tak p),entry:=b.diary.length }:=⟨rfl,rfl,Nat.le_succ _,rfl,rfl,rfl,by simp⟩
    exact ⟨P,_,hI.release hc hp hpc hu hrun x.handle he hB rfl rfl rfl,hD.begun hc hC hB _ rfl rfl _⟩
   ·rw [if_pos (by simpa using he)]
    simp only
    rw [if_neg he]
    exact hstill
def linksOf (b:Bd) (L:List Nat) (x:Ev):List Nat:=if 3≤x.kind∧x.kind≤5∧(b.do_ x).2=0 then L ++ [b.ep x.core.toNat+b.ep x.peer.toNat] else L
theorem Good.do_ (h:Good b L) (hN:b.now<40000) (x:Ev):Good (b.do_ x).1 (linksOf b L x):=by
 have hstill:Good ({ b with now:=b.now+1 }:Bd) L:=by
  obtain ⟨P,C,hI,hD⟩:=h
  exact ⟨P,C,hI.tick,hD.still rfl rfl (fun i hi q=>⟨q,rfl⟩)⟩
 by_cases h3:3≤x.kind∧x.kind≤5
 ·have hl:linksOf b L x=if (b.do_ x).2=0 then L ++ [b.ep x.core.toNat+b.ep x.peer.toNat] else L:=by
   unfold linksOf
   simp only [h3.1,h3.2,true_and]
  rw [hl]
  unfold Bd.do_ Bd.act
  rw [if_neg (show ¬x.kind=1 by omega),if_neg (show ¬x.kind=2 by omega),if_pos h3]
  by_cases hh: ¬({ b with now:=b.now+1 }:Bd).has x.core∨ ¬({ b with now:=b.now+1 }:Bd).has x.peer
  ·rw [if_pos hh];simpa using hstill
  rw [if_neg hh]
  by_cases hu:({ b with now:=b.now+1 }:Bd).up x.core.toNat
  ·rw [if_neg (show ¬ ¬({ b with now:=b.now+1 }:Bd).up x.core.toNat from fun q=>q hu)]
   by_cases he:x.core=x.peer
   ·rw [if_pos he];simpa using hstill
   rw [if_neg he]
   by_cases hr:(({ b with now:=b.now+1 }:Bd).cor x.core.toNat).runs.isSome=true
   ·rw [if_pos hr];simpa using hstill
   rw [if_neg hr]
   have hh1:0≤x.core∧x.core<(b.n:Int):=by
    by_cases q:({ b with now:=b.now+1 }:Bd).has x.core
    ·exact q
    ·exact absurd (.inl q) hh
   have hh2:0≤x.peer∧x.peer<(b.n:Int):=by
    by_cases q:({ b with now:=b.now+1 }:Bd).has x.peer
    ·exact q
    ·exact absurd (.inr q) hh
   have hrn:(b.cor x.core.toNat).runs=none:=by simpa using hr
   exact h.call hN (c:=x.core.toNat) (p:=x.peer.toNat) (by omega) (by omega) (by omega) ((upb_up b _).2 hu) hrn x
  ·rw [if_pos (show ¬({ b with now:=b.now+1 }:Bd).up x.core.toNat from hu)];simpa using hstill
 have hl:linksOf b L x=L:=by
  unfold linksOf
  exact if_neg (fun q=>h3 ⟨q.1,q.2.1⟩)
 rw [hl]
 unfold Bd.do_ Bd.act
 by_cases h1:x.kind=1
 ·rw [if_pos h1]
  by_cases hh:({ b with now:=b.now+1 }:Bd).has x.core
  ·rw [if_neg (by simpa using hh)]
   by_cases hu:({ b with now:=b.now+1 }:Bd).up x.core.toNat
   ·rw [if_neg (by simpa using hu)]
    have h2:0≤x.core∧x.core<(b.n:Int):=hh
    exact h.step hN (by omega) ((upb_up b _).2 hu)
   ·rw [if_pos (by simpa using hu)];exact hstill
  ·rw [if_pos (by simpa using hh)];exact hstill
 rw [if_neg h1]
 by_cases h2:x.kind=2
 ·rw [if_pos h2]
  by_cases hh:({ b with now:=b.now+1 }:Bd).has x.core
  ·rw [if_neg (by simpa using hh)]
   have h3:0≤x.core∧x.core<(b.n:Int):=hh
   obtain ⟨P,C,hI,hD⟩:=h
   exact ⟨P,C,hI.drain (c:=x.core.toNat) (by omega) rfl rfl (Nat.le_succ _) rfl rfl rfl,hD.still rfl rfl (fun i hi q=>⟨q,rfl⟩)⟩
  ·rw [if_pos (by simpa using hh)];exact hstill
 rw [if_neg h2]
 rw [if_neg h3]
 by_cases h6:x.kind=6
 ·rw [if_pos h6]
  simp only
  by_cases ho:(Gates.holdR b.sc.g x.core).2=0
  ·rw [if_neg (by simpa using ho)]
   obtain ⟨P,C,hI,hD⟩:=h
   have hcores:=hI.cores
   have hg:0≤x.core∧x.core<(b.n:Int)∧b.sc.g.held.getD x.core.toNat false=false∧(Gates.holdR b.sc.g x.core).1=b.sc.g.hold x.core.toNat true:=by
    unfold Gates.holdR at ho ⊢
    by_cases q:Gates.coreE b.sc.g.cores x.core=0
    ·rw [if_pos q] at ho ⊢
     have:=Gates.core_in q
     by_cases q2:b.sc.g.held.getD x.core.toNat false=true
     ·rw [if_pos q2] at ho;simp at ho
     ·rw [if_neg q2]
      exact ⟨by omega,by omega,by simpa using q2,rfl⟩
    ·rw [if_neg q] at ho;exact absurd ho q
   obtain ⟨g1,g2,g3,g4⟩:=hg
   rw [g4]
   exact ⟨_,_,hI.hold (c:=x.core.toNat) (by omega) (by unfold Bd.upb;rw [g3];rfl) rfl rfl (Nat.le_succ _) rfl rfl rfl,hD.drop rfl rfl (fun i hi=>upd_other _ _ _ _ hi) (by show (upd b.cor x.core.toNat _ x.core.toNat).runs=none;rw [upd_same])⟩
  ·rw [if_pos (by simpa using ho)];exact hstill
 rw [if_neg h6]
 by_cases h7:x.kind=7
 ·rw [if_pos h7]
  simp only
  by_cases ho:(Gates.startR b.sc.g x.core).2=0
  ·rw [if_neg (by simpa using ho)]
   obtain ⟨P,C,hI,hD⟩:=h
   have hcores:=hI.cores
   have hg:0≤x.core∧x.core<(b.n:Int)∧b.sc.g.held.getD x.core.toNat false=true∧(Gates.startR b.sc.g x.core).1=(b.sc.g.hold x.core.toNat false).ep x.core.toNat ((b.sc.g.eps.getD x.core.toNat 0+1)%65536):=by
    unfold Gates.startR at ho ⊢
    by_cases q:Gates.coreE b.sc.g.cores x.core=0
    ·rw [if_pos q] at ho ⊢
     have:=Gates.core_in q
     by_cases q2:b.sc.g.held.getD x.core.toNat false=true
     ·rw [if_pos q2]
      exact ⟨by omega,by omega,q2,rfl⟩
     ·rw [if_neg q2] at ho;simp at ho
    ·rw [if_neg q] at ho;exact absurd ho q
   obtain ⟨g1,g2,g3,g4⟩:=hg
   rw [g4]
   have hup:b.upb x.core.toNat=false:=by unfold Bd.upb;rw [g3];rfl
   have hst:=hI.start (b':=(({ b with now:=b.now+1 }:Bd).setSc { b.sc with g:=(b.sc.g.hold x.core.toNat false).ep x.core.toNat ((b.sc.g.eps.getD x.core.toNat 0+1)%65536) }).setCor x.core.toNat (freshCor b.n b.ring x.core.toNat (((b.sc.g.hold x.core.toNat false).ep x.core.toNat ((b.sc.g.eps.getD x.core.toNat 0+1)%65536)).eps.getD x.core.toNat 0).toNat)) (c:=x.core.toNat) hN (by omega) hup rfl rfl rfl rfl rfl rfl
   refine ⟨P,C,hst.1,hD.still rfl rfl (fun i hi q=> ?_)⟩
   by_cases e:i=x.core.toNat
   ·subst e
    have q:(upd b.cor x.core.toNat (freshCor b.n b.ring x.core.toNat _) x.core.toNat).runs.isSome=true:=q
    rw [upd_same] at q
    cases q
   ·simp only [Bd.setCor,Bd.setSc,upd_other _ _ _ _ e] at q ⊢
    exact ⟨q,by first|rfl|trivial⟩
  ·rw [if_pos (by simpa using ho)];exact hstill
 rw [if_neg h7]
 exact hstill
end
end Go.Proofs.YtaaffebnajjfhaaGreatDoor.T
