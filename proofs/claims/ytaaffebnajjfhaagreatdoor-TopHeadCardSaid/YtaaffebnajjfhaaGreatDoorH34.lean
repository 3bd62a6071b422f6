/- Texts of this proof, merged: Frs6. -/
import Derived.Test.YtaaffebnajjfhaaGreatDoorH33
namespace Go.Proofs.YtaaffebnajjfhaaGreatDoor.T
set_option linter.unusedVariables false
set_option linter.unusedSimpArgs false
set_option linter.unusedSectionVars false
open Go.RowKit
def rawGiv (base ring s p o:Nat):Giv:=⟨base,ring,s,p,o,if o=0 then 0 else -1,false, [], [],0,0,0,0,0,0,0, []⟩
theorem ringB_nat {r:Nat} (h:ringB (r:Int)=true):2≤r∧r≤64:=by
 have:=(ringB_iff r).1 h
 omega
set_option maxHeartbeats 1000000 in
set_option maxRecDepth 100000 in
theorem gNewZero (base r s p o:Nat) (hb0:base<65536) (hrb:ringB (r:Int)=true) (hs0:s<8) (hp0:p<8) (hsp:s≠p) (ho:o=0) (w:World) (hg:Glob w):
  Calls Tryz.prog 45 #[.agg #[.int .i64 base, .int .i64 r], .int .i64 s, .int .i64 p, .int .i64 o] w fun e w'=>e= .returned (.pointer (some ⟨w.heap.size+1,0,none⟩))∧(∃vf',GivAt w' (w.heap.size+1) vf' (.slice none 0 0) (.slice none 0 0) (rawGiv base r s p o).first∧∀k,vf'.ownBlock=some k→w.heap.size≤k)∧Below w.heap.size w w':=by
 obtain ⟨hr0,hr1⟩:=ringB_nat hrb
 obtain ⟨w1,hw1,hb1,hk1,hg1,hz1⟩:=span_box base r w hg
 have hS:=size_any r (by omega) w1 hg1
 rw [hrb] at hS
 simp only [if_true] at hS
 have hi:=fun (x y:Int) (h0:0≤x) (h1:x<y)=>gin_any x y w1
 have hI:∀(x y:Int),0≤x→x<y→Calls Tryz.prog 81 #[.int .i64 x, .int .i64 y] w1 fun e w'=>e= .returned (.bool true)∧w1=w':=fun x y h0 h1=>by
  have:=gin_any x y w1
  rw [decide_eq_true h0,decide_eq_true h1] at this
  exact this
 have i1:=hI (base:Int) 65536 (by omega) (by omega)
 have i2:=hI (s:Int) 8 (by omega) (by omega)
 have i3:=hI (p:Int) 8 (by omega) (by omega)
 have i4:=hI (o:Int) 65536 (by omega) (by omega)
 have p0:=hk1.cell 0
 have p1:=hk1.cell 1
 simp only [List.getElem?_cons_zero,List.getElem?_cons_succ] at p0 p1
 have HS:=Lib.hid hS
 have HI:=Lib.hid (And.intro i1 (And.intro i2 (And.intro i3 i4)))
 have HW:=Lib.hid hw1
 obtain ⟨w2,hw2⟩:∃w2,w2=w1.alloc (.cells #[.int .i64 (base:Int), .int .i64 (r:Int), .int .i64 (s:Int), .int .i64 (p:Int), .int .i64 0, .int .i64 0, .bool false, .slice none 0 0, .slice none 0 0, .int .i64 0, .int .i64 0, .int .i64 0, .int .i64 0, .int .i64 0, .int .i64 0, .int .i64 0, .slice none 0 0] 159):=⟨_,rfl⟩
 have hk2:Blk w2 (w.heap.size+1) 159 [.int .i64 (base:Int), .int .i64 (r:Int), .int .i64 (s:Int), .int .i64 (p:Int), .int .i64 0, .int .i64 0, .bool false, .slice none 0 0, .slice none 0 0, .int .i64 0, .int .i64 0, .int .i64 0, .int .i64 0, .int .i64 0, .int .i64 0, .int .i64 0, .slice none 0 0]:=by
  have:=Blk.new w1 159 [.int .i64 (base:Int), .int .i64 (r:Int), .int .i64 (s:Int), .int .i64 (p:Int), .int .i64 0, .int .i64 0, .bool false, .slice none 0 0, .slice none 0 0, .int .i64 0, .int .i64 0, .int .i64 0, .int .i64 0, .int .i64 0, .int .i64 0, .int .i64 0, .slice none 0 0]
  rw [hz1] at this
  rw [hw2]
  exact this
 have hb2:Below w.heap.size w w2:=by rw [hw2];exact hb1.alloc hb1.size _
 have HW2:=Lib.hid hw2
 have HZ:=Lib.hid hz1
 have hsp':((s:Int) == (p:Int))=false:=by rw [beq_eq_false_iff_ne];omega
 subst ho
 have hgv:GivAt w2 (w.heap.size+1) (.slice none 0 0) (.slice none 0 0) (.slice none 0 0) (rawGiv base r s p 0):=⟨hk2,Row.nil _ _ _,Row.nil _ _ _,Row.nil _ _ _,fun k q=>by simp [Value.ownBlock] at q,fun k q=>by simp [Value.ownBlock] at q,fun k q=>by simp [Value.ownBlock] at q⟩
 have HF:=Lib.hid (gFirst_any _ _ _ _ (rawGiv base r s p 0) (show 1≤r by omega) hr1 w2 hgv)
 have HB:=Lib.hid hb2
 clear hw1 hb1 hk1 hg1 hz1 hg hS hi hI i1 i2 i3 i4 hw2 hk2 hb2 hgv hrb
 go_enter Tryz.func45,Tryz.ntmps45
 go_wp2_with fail
 rw [←HW.out]
 go_wp2_with fail
 refine HS.out.mono ?_
 rintro e w' ⟨rfl,rfl⟩
 go_wp2_with fail
 refine HI.out.1.mono ?_
 rintro e w' ⟨rfl,rfl⟩
 go_wp2_with fail
 refine HI.out.2.1.mono ?_
 rintro e w' ⟨rfl,rfl⟩
 go_wp2_with fail
 refine HI.out.2.2.1.mono ?_
 rintro e w' ⟨rfl,rfl⟩
 go_wp2_with fail
 refine HI.out.2.2.2.mono ?_
 rintro e w' ⟨rfl,rfl⟩
 go_upto_region 5 with fail
 rw [←HW2.out,HZ.out]
 go_wp2_with fail
 refine HF.out.mono ?_
 rintro e w' ⟨rfl,vf',h1,h2,h3⟩
 go_wp2_with fail
 go_ret
 have hbf:Below w.heap.size w w':=by
  refine HB.out.trans ?_
  exact Keep.toBelow (h2.mono (fun k _ q=>by rw [q];omega)) HB.out.size
 exact ⟨rfl,⟨vf',h1,fun k q=>Nat.le_trans HB.out.size (h3 k q)⟩,hbf⟩
set_option maxHeartbeats 1000000 in
set_option maxRecDepth 100000 in
theorem gNewPos (base r s p o:Nat) (hb0:base<65536) (hrb:ringB (r:Int)=true) (hs0:s<8) (hp0:p<8) (hsp:s≠p) (ho:0<o) (ho2:o<65536) (w:World) (hg:Glob w):
  Calls Tryz.prog 45 #[.agg #[.int .i64 base, .int .i64 r], .int .i64 s, .int .i64 p, .int .i64 o] w fun e w'=>e= .returned (.pointer (some ⟨w.heap.size+1,0,none⟩))∧(∃vf',GivAt w' (w.heap.size+1) vf' (.slice none 0 0) (.slice none 0 0) (rawGiv base r s p o).first∧∀k,vf'.ownBlock=some k→w.heap.size≤k)∧Below w.heap.size w w':=by
 obtain ⟨hr0,hr1⟩:=ringB_nat hrb
 obtain ⟨w1,hw1,hb1,hk1,hg1,hz1⟩:=span_box base r w hg
 have hS:=size_any r (by omega) w1 hg1
 rw [hrb] at hS
 simp only [if_true] at hS
 have hi:=fun (x y:Int) (h0:0≤x) (h1:x<y)=>gin_any x y w1
 have hI:∀(x y:Int),0≤x→x<y→Calls Tryz.prog 81 #[.int .i64 x, .int .i64 y] w1 fun e w'=>e= .returned (.bool true)∧w1=w':=fun x y h0 h1=>by
  have:=gin_any x y w1
  rw [decide_eq_true h0,decide_eq_true h1] at this
  exact this
 have i1:=hI (base:Int) 65536 (by omega) (by omega)
 have i2:=hI (s:Int) 8 (by omega) (by omega)
 have i3:=hI (p:Int) 8 (by omega) (by omega)
 have i4:=hI (o:Int) 65536 (by omega) (by omega)
 have p0:=hk1.cell 0
 have p1:=hk1.cell 1
 simp only [List.getElem?_cons_zero,List.getElem?_cons_succ] at p0 p1
 have HS:=Lib.hid hS
 have HI:=Lib.hid (And.intro i1 (And.intro i2 (And.intro i3 i4)))
 have HW:=Lib.hid hw1
 obtain ⟨w2,hw2⟩:∃w2,w2=w1.alloc (.cells #[.int .i64 (base:Int), .int .i64 (r:Int), .int .i64 (s:Int), .int .i64 (p:Int), .int .i64 (o:Int), .int .i64 0, .bool false, .slice none 0 0, .slice none 0 0, .int .i64 0, .int .i64 0, .int .i64 0, .int .i64 0, .int .i64 0, .int .i64 0, .int .i64 0, .slice none 0 0] 159):=⟨_,rfl⟩
 have hk2:Blk w2 (w.heap.size+1) 159 [.int .i64 (base:Int), .int .i64 (r:Int), .int .i64 (s:Int), .int .i64 (p:Int), .int .i64 (o:Int), .int .i64 0, .bool false, .slice none 0 0, .slice none 0 0, .int .i64 0, .int .i64 0, .int .i64 0, .int .i64 0, .int .i64 0, .int .i64 0, .int .i64 0, .slice none 0 0]:=by
  have:=Blk.new w1 159 [.int .i64 (base:Int), .int .i64 (r:Int), .int .i64 (s:Int), .int .i64 (p:Int), .int .i64 (o:Int), .int .i64 0, .bool false, .slice none 0 0, .slice none 0 0, .int .i64 0, .int .i64 0, .int .i64 0, .int .i64 0, .int .i64 0, .int .i64 0, .int .i64 0, .slice none 0 0]
  rw [hz1] at this
  rw [hw2]
  exact this
 have hb2:Below w.heap.size w w2:=by rw [hw2];exact hb1.alloc hb1.size _
 have HW2:=Lib.hid hw2
 have HZ:=Lib.hid hz1
 have hsp':((s:Int) == (p:Int))=false:=by rw [beq_eq_false_iff_ne];omega
 have c5:=hk2.cell 5
 have f5:=hk2.free 5
 simp only [List.getElem?_cons_zero,List.getElem?_cons_succ] at c5
 have hk3:=hk2.set 5 (.int .i64 (-1))
 have hb3:Below w.heap.size w (w2.setCell ⟨w.heap.size+1,5,none⟩ (.int .i64 (-1))):=hb2.setCell (p:=⟨w.heap.size+1,5,none⟩) (by simp) _
 generalize hw3:w2.setCell ⟨w.heap.size+1,5,none⟩ (.int .i64 (-1))=w3 at *
 have hkn:(rawGiv base r s p o).known= -1:=by unfold rawGiv;exact if_neg (by omega)
 have hgv:GivAt w3 (w.heap.size+1) (.slice none 0 0) (.slice none 0 0) (.slice none 0 0) (rawGiv base r s p o):=⟨by unfold Giv.cells;rw [hkn];exact hk3,Row.nil _ _ _,Row.nil _ _ _,Row.nil _ _ _,fun k q=>by simp [Value.ownBlock] at q,fun k q=>by simp [Value.ownBlock] at q,fun k q=>by simp [Value.ownBlock] at q⟩
 have HF:=Lib.hid (gFirst_any _ _ _ _ (rawGiv base r s p o) (show 1≤r by omega) hr1 w3 hgv)
 have HW3:=Lib.hid hw3.symm
 have HB:=Lib.hid hb3
 clear hw1 hb1 hk1 hg1 hz1 hg hS hi hI i1 i2 i3 i4 hw2 hk2 hb2 hgv hrb hk3 hb3 hw3 hkn
 go_enter Tryz.func45,Tryz.ntmps45
 go_wp2_with fail
 rw [←HW.out]
 go_wp2_with fail
 refine HS.out.mono ?_
 rintro e w' ⟨rfl,rfl⟩
 go_wp2_with fail
 refine HI.out.1.mono ?_
 rintro e w' ⟨rfl,rfl⟩
 go_wp2_with fail
 refine HI.out.2.1.mono ?_
 rintro e w' ⟨rfl,rfl⟩
 go_wp2_with fail
 refine HI.out.2.2.1.mono ?_
 rintro e w' ⟨rfl,rfl⟩
 go_wp2_with fail
 refine HI.out.2.2.2.mono ?_
 rintro e w' ⟨rfl,rfl⟩
 go_upto_region 5 with fail
 rw [←HW2.out,HZ.out]
 go_wp2_with fail
 rw [←HW3.out]
 refine HF.out.mono ?_
 rintro e w' ⟨rfl,vf',h1,h2,h3⟩
 go_wp2_with fail
 go_ret
 have hbf:Below w.heap.size w w':=by
  refine HB.out.trans ?_
  exact Keep.toBelow (h2.mono (fun k _ q=>by rw [q];omega)) HB.out.size
 exact ⟨rfl,⟨vf',h1,fun k q=>Nat.le_trans HB.out.size (h3 k q)⟩,hbf⟩
theorem gNew_any (base r s p o:Nat) (hb0:base<65536) (hrb:ringB (r:Int)=true) (hs0:s<8) (hp0:p<8) (hsp:s≠p) (ho:o<65536) (w:World) (hg:Glob w):
  Calls Tryz.prog 45 #[.agg #[.int .i64 base, .int .i64 r], .int .i64 s, .int .i64 p, .int .i64 o] w fun e w'=>e= .returned (.pointer (some ⟨w.heap.size+1,0,none⟩))∧(∃vf',GivAt w' (w.heap.size+1) vf' (.slice none 0 0) (.slice none 0 0) (rawGiv base r s p o).first∧∀k,vf'.ownBlock=some k→w.heap.size≤k)∧Below w.heap.size w w':=by
 by_cases h:o=0
 ·exact gNewZero base r s p o hb0 hrb hs0 hp0 hsp h w hg
 ·exact gNewPos base r s p o hb0 hrb hs0 hp0 hsp (by omega) ho w hg
end Go.Proofs.YtaaffebnajjfhaaGreatDoor.T
