/- Texts of this proof, merged: Run3, Aliv. -/
import Derived.Test.YtaaffebnajjfhaaGreatDoorH40
namespace Go.Proofs.YtaaffebnajjfhaaGreatDoor.T
set_option linter.unusedVariables false
set_option linter.unusedSimpArgs false
set_option linter.unusedSectionVars false
open Go.RowKit
structure Fine (b:Bd) (N:Nat):Prop where
 good:∃L,Good b L
 now:b.now≤N
 dia:b.diary.length≤b.now
 right:rightB b.n b.ring b.most=true
theorem Fine.do_ {b:Bd} {N:Nat} (h:Fine b N) (hN:N<40000) (x:Ev):Fine (b.do_ x).1 (N+1)∧(b.do_ x).1.n=b.n:=by
 obtain ⟨L,hG⟩:=h.good
 have h1:=Bd.do_now b x
 have h2:=do_len b x
 have h3:=h.now
 have h4:=h.dia
 exact ⟨⟨⟨_,hG.do_ (by omega) x⟩,by omega,by omega,by rw [h1.2.1,h1.2.2.1,h1.2.2.2];exact h.right⟩,h1.2.1⟩
theorem runB_fine {c:Nat}:∀(F:Nat) (b:Bd) (N n:Nat) (r:Bd × Int × Int),Fine b N→N+F<40000→runB F b c n=some r→Fine r.1 (N+F)∧r.1.n=b.n:=by
 intro F
 induction F with
 | zero=>intro b N n r _ _ hr;simp [runB] at hr
 | succ F ih=>
  intro b N n r h hN hr
  obtain ⟨hd,hn⟩:=h.do_ (by omega) (stepE c)
  have hd':Fine (b.do_ (stepE c)).1 (N+(F+1)):=⟨hd.good,Nat.le_trans hd.now (by omega),hd.dia,hd.right⟩
  unfold runB at hr
  split at hr
  ·injection hr with hr
   subst hr
   exact ⟨hd',hn⟩
  ·split at hr
   ·have:=ih _ (N+1) (n+1) r hd (by omega) hr
    rw [show N+1+F=N+(F+1) by omega] at this
    exact ⟨this.1,this.2.trans hn⟩
   ·split at hr
    ·injection hr with hr
     subst hr
     exact ⟨hd',hn⟩
    ·cases hr
theorem callB_fine {F:Nat} {b:Bd} {N c:Nat} {x:Ev} {r:Bd × Int} (h:Fine b N) (hN:N+1+F<40000) (hr:callB F b x c=some r):Fine r.1 (N+1+F)∧r.1.n=b.n:=by
 obtain ⟨hd,hn⟩:=h.do_ (by omega) x
 unfold callB at hr
 split at hr
 ·injection hr with hr
  subst hr
  exact ⟨⟨hd.good,Nat.le_trans hd.now (by omega),hd.dia,hd.right⟩,hn⟩
 ·obtain ⟨r1,h1,h2⟩:=Option.map_eq_some_iff.1 hr
  subst h2
  have:=runB_fine F _ (N+1) 1 r1 hd (by omega) h1
  exact ⟨this.1,this.2.trans hn⟩
theorem Fine.first {n ring most:Nat} (hR:rightB n ring most=true):Fine (Bd.new n ring most) 0:=by
 obtain ⟨hn0,hn1,⟨hr0,hr1⟩,hrb,hm0,hm1⟩:=right_of hR
 exact ⟨⟨[],Good.first n ring most (by omega) (by omega) (by omega) (by omega)⟩,Nat.le_refl _,Nat.le_refl _,hR⟩
theorem alive_states:∃b1 b2 b3 b4,callB 200 (Bd.new 2 2 2) ⟨3,0,1,0, [3,4]⟩ 0=some (b1,0)∧callB 200 b1 ⟨4,1,0,0, []⟩ 1=some (b2,0)∧callB 200 b2 ⟨5,1,0,64, []⟩ 1=some (b3,0)∧callB 200 b3 ⟨4,1,0,0, []⟩ 1=some (b4,6)∧b4.diary.length=4∧∀j,j<b4.diary.length→(b4.diary.getD j Ent.none_).load.length≤1000:=by
 have h:=alAll_eq
 unfold alAll al1 al2 al3 at h
 obtain ⟨⟨b1,e1⟩,h1,h⟩:=Option.bind_eq_some_iff.1 h
 obtain ⟨⟨b2,e2⟩,h2,h⟩:=Option.bind_eq_some_iff.1 h
 obtain ⟨⟨b3,e3⟩,h3,h⟩:=Option.bind_eq_some_iff.1 h
 obtain ⟨⟨b4,e4⟩,h4,h⟩:=Option.map_eq_some_iff.1 h
 simp only [Prod.mk.injEq] at h
 obtain ⟨q1,q2,q3,q4,q5,q6⟩:=h
 subst q1 q2 q3 q4
 refine ⟨b1,b2,b3,b4,h1,h2,h3,h4,q5,fun j hj=> ?_⟩
 rw [List.all_eq_true] at q6
 have:=q6 (b4.diary.getD j Ent.none_) (by rw [List.getD_eq_getElem?_getD,List.getElem?_eq_getElem hj,Option.getD_some];exact List.getElem_mem _)
 simpa using this
theorem fine_call {w:World} {Y:Lay} {b:Bd} {N:Nat} {x:Ev} {lv:Value} {c:Nat} {r:Bd × Int} (hF:Fine b N) (hN:N+201<40000) (hk:x.kind≠8) (hl:LoadOk w Y b lv x.load) (hcx:x.core=c) (hc:c<b.n) (hr:callB 200 b x c=some r) (h:BdAt w Y b):
  Calls Tryz.prog 21 #[.pointer (some ⟨Y.bd,0,none⟩),evV x lv 0 0] w fun e w'=>e= .returned (.int .i64 r.2)∧BdTo w Y b r.1 w':=by
 obtain ⟨L,hG⟩:=hF.good
 have h1:=hF.now
 exact cCall_any hG (by omega) hF.dia hF.right hk hl hcx hc r hr h
set_option maxHeartbeats 2000000 in
set_option maxRecDepth 100000 in
theorem alive_any (w:World) (hg:Glob w):
  Calls Tryz.prog 7 #[] w fun e w'=>e= .returned (.bool true)∧Below w.heap.size w w':=by
 obtain ⟨b1,b2,b3,b4,h1,h2,h3,h4,hlen,hshort⟩:=alive_states
 have f0:Fine (Bd.new 2 2 2) 0:=Fine.first (by decide)
 obtain ⟨f1,n1⟩:=callB_fine f0 (by omega) h1
 obtain ⟨f2,n2⟩:=callB_fine f1 (by omega) h2
 obtain ⟨f3,n3⟩:=callB_fine f2 (by omega) h3
 obtain ⟨f4,n4⟩:=callB_fine f3 (by omega) h4
 simp only at f1 f2 f3 f4 n1 n2 n3 n4
 have e1:b1.n=2:=n1
 have e2:b2.n=2:=n2.trans e1
 have e3:b3.n=2:=n3.trans e2
 have hN:Calls Tryz.prog 5 #[.agg #[.int .i64 2, .int .i64 2, .int .i64 2]] w fun e w'=>∃Y:Lay,e= .returned (.tuple #[.pointer (some ⟨Y.bd,0,none⟩), .int .i64 0])∧BdAt w' Y (Bd.new 2 2 2)∧(∀k,BdF Y (Bd.new 2 2 2) k→w.heap.size≤k)∧Below w.heap.size w w':=bNew_any 2 2 2 (by decide) w hg
 have HN:=Lib.hid hN
 clear hN
 have HS:=Lib.hid (And.intro h1 (And.intro h2 (And.intro h3 (And.intro h4 (And.intro hlen hshort)))))
 have HF:=Lib.hid (And.intro f0 (And.intro f1 (And.intro f2 (And.intro f3 f4))))
 have HE:=Lib.hid (And.intro e1 (And.intro e2 e3))
 clear h1 h2 h3 h4 hlen hshort f0 f1 f2 f3 f4 n1 n2 n3 n4 e1 e2 e3 hg
 go_enter Tryz.func7,Tryz.ntmps7
 go_wp2_with fail
 refine HN.out.mono ?_
 rintro e w1 ⟨Y,rfl,hY,hge,hb1⟩
 have hba:Below w1.heap.size w1 (w1.alloc (.cells [Value.int .i64 3, .int .i64 4].toArray 3)):=(Below.refl _ _).alloc (Nat.le_refl _) _
 have hk3:=Blk.new w1 3 [Value.int .i64 3, .int .i64 4]
 have hl:LoadOk (w1.alloc (.cells [Value.int .i64 3, .int .i64 4].toArray 3)) Y (Bd.new 2 2 2) (.slice (some ⟨w1.heap.size,0,none⟩) 2 2) [3,4]:=by
  refine ⟨.inr ⟨w1.heap.size,0,2,rfl,hk3.lt,by simp,fun j hj=> ?_⟩,by simp,fun k q _=> ?_⟩
  ·rw [Nat.zero_add,hk3.cell]
   have hj:j<2:=hj
   rcases j with _|_|j
   ·rfl
   ·rfl
   ·omega
  ·have q:w1.heap.size=k:=by simpa [Value.ownBlock] using q
   subst q
   exact ⟨hk3.lt,fun r=>by have:=hY.lt _ r;omega⟩
 have hC:=fine_call (x:=⟨3,0,1,0, [3,4]⟩) (c:=0) HF.out.1 (by omega) (by decide) hl rfl (by show 0<2;omega) HS.out.1 (hY.fresh hba)
 have HC:=Lib.hid hC
 have HB:=Lib.hid (And.intro hb1 (And.intro hba hge))
 clear hC hl hk3 hY hb1 hba hge
 go_wp2_with fail
 refine HC.out.mono ?_
 rintro e w2 ⟨rfl,hT2⟩
 obtain ⟨Y2,⟨y2,z2⟩,hY2,k2,g2⟩:=hT2
 have hC:=fine_call (x:=⟨4,1,0,0, []⟩) (c:=1) HF.out.2.1 (by omega) (by decide) (nilLoad _ _ _) rfl (by rw [HE.out.1];omega) HS.out.2.1 hY2
 rw [y2] at hC
 have HC2:=Lib.hid hC
 have HK2:=Lib.hid (And.intro k2 g2)
 clear hC hY2 k2 g2
 go_wp2_with fail
 refine HC2.out.mono ?_
 rintro e w3 ⟨rfl,hT3⟩
 have hT3:=BdTo.step ⟨y2,z2⟩ HK2.out.1 HK2.out.2 hT3
 obtain ⟨Y3,⟨y3,z3⟩,hY3,k3,g3⟩:=hT3
 have hC:=fine_call (x:=⟨5,1,0,64, []⟩) (c:=1) HF.out.2.2.1 (by omega) (by decide) (nilLoad _ _ _) rfl (by rw [HE.out.2.1];omega) HS.out.2.2.1 hY3
 rw [y3] at hC
 have HC3:=Lib.hid hC
 have HK3:=Lib.hid (And.intro k3 g3)
 clear hC hY3 k3 g3
 go_wp2_with fail
 refine HC3.out.mono ?_
 rintro e w4 ⟨rfl,hT4⟩
 have hT4:=BdTo.step ⟨y3,z3⟩ HK3.out.1 HK3.out.2 hT4
 obtain ⟨Y4,⟨y4,z4⟩,hY4,k4,g4⟩:=hT4
 have hC:=fine_call (x:=⟨4,1,0,0, []⟩) (c:=1) HF.out.2.2.2.1 (by omega) (by decide) (nilLoad _ _ _) rfl (by rw [HE.out.2.2];omega) HS.out.2.2.2.1 hY4
 rw [y4] at hC
 have HC4:=Lib.hid hC
 have HK4:=Lib.hid (And.intro k4 g4)
 clear hC hY4 k4 g4
 go_wp2_with fail
 refine HC4.out.mono ?_
 rintro e w5 ⟨rfl,hT5⟩
 have hT5:=BdTo.step ⟨y4,z4⟩ HK4.out.1 HK4.out.2 hT5
 obtain ⟨Y5,⟨y5,z5⟩,hY5,k5,g5⟩:=hT5
 have hl5:b4.diary.length=4:=HS.out.2.2.2.2.1
 have hDi:=bDiary_any (by omega) HS.out.2.2.2.2.2 hY5
 unfold ptr at hDi
 rw [y5] at hDi
 have HD:=Lib.hid hDi
 have HK5:=Lib.hid (And.intro k5 g5)
 clear hDi hY5 k5 g5 hl5
 go_wp2_with fail
 refine HD.out.mono ?_
 rintro e w6 ⟨v,dl,rfl,hv⟩
 obtain ⟨A,q,hve, -, -⟩:=Row.slice hv.row
 rw [HS.out.2.2.2.2.1] at hve
 subst hve
 have HV:=Lib.hid hv
 clear hv
 go_wp2_with fail
 go_ret
 refine ⟨rfl, ?_⟩
 have s1:=HB.out.1.size
 have s2:=HB.out.2.1.size
 have b1a:=HB.out.1.trans (HB.out.2.1.mono s1)
 have b5:=b1a.trans (Keep.toBelow (HK5.out.1.mono (fun k _ q=>HB.out.2.2 k q)) b1a.size)
 exact b5.trans (HV.out.b.mono b5.size)
end Go.Proofs.YtaaffebnajjfhaaGreatDoor.T
