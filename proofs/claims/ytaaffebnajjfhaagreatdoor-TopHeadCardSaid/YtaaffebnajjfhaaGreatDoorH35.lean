/- Texts of this proof, merged: Frs7. -/
import Derived.Test.YtaaffebnajjfhaaGreatDoorH34
namespace Go.Proofs.YtaaffebnajjfhaaGreatDoor.T
set_option linter.unusedVariables false
set_option linter.unusedSimpArgs false
set_option linter.unusedSectionVars false
open Go.RowKit
def rawTak (base ring s p o:Nat):Tak:=⟨base,ring,s,p,o,if o=0 then 0 else -1,false,0,0,0,0,0,0,false, [],0,Grants.newTb ring⟩
theorem cell_alloc {u:World} {ob:Obj} {p:Addr} {v:Value} (h:u.cell? p=some v):(u.alloc ob).cell? p=some v:=
 (((Below.refl u.heap.size u).alloc (Nat.le_refl _) ob).cell (World.block_lt_of_cell? u p h)).trans h
def takRow (base r s p o:Int) (tb:Nat):List Value:= [.int .i64 base, .int .i64 r, .int .i64 s, .int .i64 p, .int .i64 o, .int .i64 0, .bool false, .int .i64 0, .int .i64 0, .pointer (some ⟨tb,0,none⟩), .int .i64 0, .int .i64 0, .int .i64 0, .int .i64 0, .bool false, .slice none 0 0, .int .i64 0]
set_option maxHeartbeats 1000000 in
set_option maxRecDepth 100000 in
theorem tNewZero (base r s p o:Nat) (hb0:base<65536) (hrb:ringB (r:Int)=true) (hs0:s<8) (hp0:p<8) (hsp:s≠p) (ho:o=0) (w:World) (hg:Glob w):
  Calls Tryz.prog 46 #[.agg #[.int .i64 base, .int .i64 r], .int .i64 s, .int .i64 p, .int .i64 o] w fun e w'=>∃tk tt,e= .returned (.pointer (some ⟨tk,0,none⟩))∧TakAt w' tk tt (.slice none 0 0) (rawTak base r s p o)∧w.heap.size≤tk∧w.heap.size≤tt∧Below w.heap.size w w':=by
 obtain ⟨hr0,hr1⟩:=ringB_nat hrb
 obtain ⟨w1,hw1,hb1,hk1,hg1,hz1⟩:=span_box base r w hg
 have hS:=size_any r (by omega) w1 hg1
 rw [hrb] at hS
 simp only [if_true] at hS
 have hI:∀(x y:Int),0≤x→x<y→Calls Tryz.prog 83 #[.int .i64 x, .int .i64 y] w1 fun e w'=>e= .returned (.bool true)∧w1=w':=fun x y h0 h1=>by
  have:=tin_any x y w1
  rw [decide_eq_true h0,decide_eq_true h1] at this
  exact this
 have i1:=hI (base:Int) 65536 (by omega) (by omega)
 have i2:=hI (s:Int) 8 (by omega) (by omega)
 have i3:=hI (p:Int) 8 (by omega) (by omega)
 have i4:=hI (o:Int) 65536 (by omega) (by omega)
 have hp01:w1.cell? ⟨w.heap.size,0,none⟩=some (.int .i64 (base:Int))∧w1.cell? ⟨w.heap.size,1,none⟩=some (.int .i64 (r:Int)):=⟨hk1.cell 0,hk1.cell 1⟩
 obtain ⟨p0,p1⟩:=hp01
 have HS:=Lib.hid hS
 have HI:=Lib.hid (And.intro i1 (And.intro i2 (And.intro i3 i4)))
 have HW:=Lib.hid hw1
 have hT:∀u,Below w1.heap.size w1 u→Calls Tryz.prog 84 #[.int .i64 (r:Int)] u fun e w'=>e= .returned (.pointer (some ⟨u.heap.size,0,none⟩))∧(Blk w' u.heap.size 192 (Grants.newTb r).cells∧Below u.heap.size u w'∧u.heap.size<w'.heap.size)∧w'.cell? ⟨w.heap.size,0,none⟩=some (.int .i64 (base:Int))∧w'.cell? ⟨w.heap.size,1,none⟩=some (.int .i64 (r:Int)):=by
  intro u hu
  refine (Grants.new_yes (r:Int) u ⟨by omega,by omega⟩).mono ?_
  rintro e w' ⟨h1,h2,h3,h4⟩
  have hk2:=(hk1.keep (Keep.ofFresh hu (B:=0) (F:=fun _=>False)) (fun q=>q)).keep (Keep.ofFresh h3 (B:=0) (F:=fun _=>False)) (fun q=>q)
  exact ⟨h1,⟨h2,h3,h4⟩,hk2.cell 0,hk2.cell 1⟩
 have HT:=Lib.hid hT
 have HB:=Lib.hid hb1
 have hsp':((s:Int) == (p:Int))=false:=by rw [beq_eq_false_iff_ne];omega
 subst ho
 clear hw1 hb1 hk1 hg1 hz1 hg hS hI i1 i2 i3 i4 hrb hT
 go_enter Tryz.func46,Tryz.ntmps46
 go_wp2_with fail
 rw [←HW.out]
 go_wp2_with fail
 refine HS.out.mono ?_
 rintro e w' ⟨rfl,rfl⟩
 go_wp2_with fail
 refine HI.out.1.mono ?_
 rintro e w' ⟨rfl,rfl⟩
 go_wp2_with fail
 refine HI.out.2.1.mono ?_
 rintro e w' ⟨rfl,rfl⟩
 go_wp2_with fail
 refine HI.out.2.2.1.mono ?_
 rintro e w' ⟨rfl,rfl⟩
 go_wp2_with fail
 refine HI.out.2.2.2.mono ?_
 rintro e w' ⟨rfl,rfl⟩
 go_upto_region 4 with fail
 have hq:w1.cell? ⟨w.heap.size,0,none⟩=some (.int .i64 (base:Int))∧w1.cell? ⟨w.heap.size,1,none⟩=some (.int .i64 (r:Int)):=⟨p0,p1⟩
 go_region_held3 (fun u=>u.cell? ⟨w.heap.size,0,none⟩=some (.int .i64 (base:Int))∧u.cell? ⟨w.heap.size,1,none⟩=some (.int .i64 (r:Int))) (first|exact hq|assumption|(refine ⟨?_, ?_⟩<;>(simp only [World.cell?_drew];first|exact p0|exact p1))|exact ⟨cell_alloc hq2.1,cell_alloc hq2.2⟩) (first|(go_at_call 84;refine (HT.out _ (by first|exact (Below.refl _ _).drew|exact Below.refl _ _)).mono ?_;rintro e w2 ⟨rfl,hN,hq2⟩;have HN:=Lib.hid hN;clear hN))
 have hk2:=Blk.new w2 163 (takRow base r s p 0 w1.heap.size)
 have hs1:=HB.out.size
 have hs2:w1.heap.size≤w2.heap.size:=HN.out.2.1.size
 have hb2:Below w.heap.size w (w2.alloc (.cells (takRow base r s p 0 w1.heap.size).toArray 163)):=(HB.out.drew.trans (HN.out.2.1.mono hs1)).alloc (Nat.le_trans hs1 hs2) _
 have ht2:Blk (w2.alloc (.cells (takRow base r s p 0 w1.heap.size).toArray 163)) w1.heap.size 192 (Grants.newTb r).cells:=Blk.alloc (HN.out.1) _
 have hlt:w1.heap.size<w2.heap.size:=HN.out.2.2
 unfold takRow at hk2 hb2 ht2
 generalize w2.alloc (.cells [Value.int .i64 (base:Int), .int .i64 (r:Int), .int .i64 (s:Int), .int .i64 (p:Int), .int .i64 0, .int .i64 0, .bool false, .int .i64 0, .int .i64 0, .pointer (some ⟨w1.heap.size,0,none⟩), .int .i64 0, .int .i64 0, .int .i64 0, .int .i64 0, .bool false, .slice none 0 0, .int .i64 0].toArray 163)=w3 at *
 have HF:=Lib.hid (And.intro hk2 (And.intro hb2 ht2))
 clear hk2 hb2 ht2
 go_wp2_with fail
 go_ret
 exact ⟨w2.heap.size,w1.heap.size,rfl,⟨HF.out.1,HF.out.2.2,Row.nil _ _ _⟩,by omega,by omega,HF.out.2.1⟩
set_option maxHeartbeats 1000000 in
set_option maxRecDepth 100000 in
theorem tNewPos (base r s p o:Nat) (hb0:base<65536) (hrb:ringB (r:Int)=true) (hs0:s<8) (hp0:p<8) (hsp:s≠p) (ho:0<o) (ho2:o<65536) (w:World) (hg:Glob w):
  Calls Tryz.prog 46 #[.agg #[.int .i64 base, .int .i64 r], .int .i64 s, .int .i64 p, .int .i64 o] w fun e w'=>∃tk tt,e= .returned (.pointer (some ⟨tk,0,none⟩))∧TakAt w' tk tt (.slice none 0 0) (rawTak base r s p o)∧w.heap.size≤tk∧w.heap.size≤tt∧Below w.heap.size w w':=by
 obtain ⟨hr0,hr1⟩:=ringB_nat hrb
 obtain ⟨w1,hw1,hb1,hk1,hg1,hz1⟩:=span_box base r w hg
 have hS:=size_any r (by omega) w1 hg1
 rw [hrb] at hS
 simp only [if_true] at hS
 have hI:∀(x y:Int),0≤x→x<y→Calls Tryz.prog 83 #[.int .i64 x, .int .i64 y] w1 fun e w'=>e= .returned (.bool true)∧w1=w':=fun x y h0 h1=>by
  have:=tin_any x y w1
  rw [decide_eq_true h0,decide_eq_true h1] at this
  exact this
 have i1:=hI (base:Int) 65536 (by omega) (by omega)
 have i2:=hI (s:Int) 8 (by omega) (by omega)
 have i3:=hI (p:Int) 8 (by omega) (by omega)
 have i4:=hI (o:Int) 65536 (by omega) (by omega)
 have hp01:w1.cell? ⟨w.heap.size,0,none⟩=some (.int .i64 (base:Int))∧w1.cell? ⟨w.heap.size,1,none⟩=some (.int .i64 (r:Int)):=⟨hk1.cell 0,hk1.cell 1⟩
 obtain ⟨p0,p1⟩:=hp01
 have HS:=Lib.hid hS
 have HI:=Lib.hid (And.intro i1 (And.intro i2 (And.intro i3 i4)))
 have HW:=Lib.hid hw1
 have hT:∀u,Below w1.heap.size w1 u→Calls Tryz.prog 84 #[.int .i64 (r:Int)] u fun e w'=>e= .returned (.pointer (some ⟨u.heap.size,0,none⟩))∧(Blk w' u.heap.size 192 (Grants.newTb r).cells∧Below u.heap.size u w'∧u.heap.size<w'.heap.size)∧w'.cell? ⟨w.heap.size,0,none⟩=some (.int .i64 (base:Int))∧w'.cell? ⟨w.heap.size,1,none⟩=some (.int .i64 (r:Int)):=by
  intro u hu
  refine (Grants.new_yes (r:Int) u ⟨by omega,by omega⟩).mono ?_
  rintro e w' ⟨h1,h2,h3,h4⟩
  have hk2:=(hk1.keep (Keep.ofFresh hu (B:=0) (F:=fun _=>False)) (fun q=>q)).keep (Keep.ofFresh h3 (B:=0) (F:=fun _=>False)) (fun q=>q)
  exact ⟨h1,⟨h2,h3,h4⟩,hk2.cell 0,hk2.cell 1⟩
 have HT:=Lib.hid hT
 have HB:=Lib.hid hb1
 have hsp':((s:Int) == (p:Int))=false:=by rw [beq_eq_false_iff_ne];omega
 clear hw1 hb1 hk1 hg1 hz1 hg hS hI i1 i2 i3 i4 hrb hT
 go_enter Tryz.func46,Tryz.ntmps46
 go_wp2_with fail
 rw [←HW.out]
 go_wp2_with fail
 refine HS.out.mono ?_
 rintro e w' ⟨rfl,rfl⟩
 go_wp2_with fail
 refine HI.out.1.mono ?_
 rintro e w' ⟨rfl,rfl⟩
 go_wp2_with fail
 refine HI.out.2.1.mono ?_
 rintro e w' ⟨rfl,rfl⟩
 go_wp2_with fail
 refine HI.out.2.2.1.mono ?_
 rintro e w' ⟨rfl,rfl⟩
 go_wp2_with fail
 refine HI.out.2.2.2.mono ?_
 rintro e w' ⟨rfl,rfl⟩
 go_upto_region 4 with fail
 have hq:w1.cell? ⟨w.heap.size,0,none⟩=some (.int .i64 (base:Int))∧w1.cell? ⟨w.heap.size,1,none⟩=some (.int .i64 (r:Int)):=⟨p0,p1⟩
 go_region_held3 (fun u=>u.cell? ⟨w.heap.size,0,none⟩=some (.int .i64 (base:Int))∧u.cell? ⟨w.heap.size,1,none⟩=some (.int .i64 (r:Int))) (first|exact hq|assumption|(refine ⟨?_, ?_⟩<;>(simp only [World.cell?_drew];first|exact p0|exact p1))|exact ⟨cell_alloc hq2.1,cell_alloc hq2.2⟩) (first|(go_at_call 84;refine (HT.out _ (by first|exact (Below.refl _ _).drew|exact Below.refl _ _)).mono ?_;rintro e w2 ⟨rfl,hN,hq2⟩;have HN:=Lib.hid hN;clear hN))
 have hk2:=Blk.new w2 163 (takRow base r s p (o:Int) w1.heap.size)
 have hs1:=HB.out.size
 have hs2:w1.heap.size≤w2.heap.size:=HN.out.2.1.size
 have hb2:Below w.heap.size w (w2.alloc (.cells (takRow base r s p (o:Int) w1.heap.size).toArray 163)):=(HB.out.drew.trans (HN.out.2.1.mono hs1)).alloc (Nat.le_trans hs1 hs2) _
 have ht2:Blk (w2.alloc (.cells (takRow base r s p (o:Int) w1.heap.size).toArray 163)) w1.heap.size 192 (Grants.newTb r).cells:=Blk.alloc (HN.out.1) _
 have hlt:w1.heap.size<w2.heap.size:=HN.out.2.2
 unfold takRow at hk2 hb2 ht2
 generalize w2.alloc (.cells [Value.int .i64 (base:Int), .int .i64 (r:Int), .int .i64 (s:Int), .int .i64 (p:Int), .int .i64 (o:Int), .int .i64 0, .bool false, .int .i64 0, .int .i64 0, .pointer (some ⟨w1.heap.size,0,none⟩), .int .i64 0, .int .i64 0, .int .i64 0, .int .i64 0, .bool false, .slice none 0 0, .int .i64 0].toArray 163)=w3 at *
 have c5:=hk2.cell 5
 have f5:=hk2.free 5
 simp only [List.getElem?_cons_zero,List.getElem?_cons_succ] at c5
 have hk3:=hk2.set 5 (.int .i64 (-1))
 have hb3:Below w.heap.size w (w3.setCell ⟨w2.heap.size,5,none⟩ (.int .i64 (-1))):=hb2.setCell (p:=⟨w2.heap.size,5,none⟩) (by show w.heap.size≤w2.heap.size;omega) _
 have ht3:=ht2.far (p:=⟨w2.heap.size,5,none⟩) (by show w1.heap.size≠w2.heap.size;omega) (.int .i64 (-1))
 have HF:=Lib.hid (And.intro hk3 (And.intro hb3 ht3))
 clear hk2 hb2 ht2 hk3 hb3 ht3
 go_wp2_with fail
 go_ret
 have hkn:(rawTak base r s p o).known= -1:=by unfold rawTak;exact if_neg (by omega)
 exact ⟨w2.heap.size,w1.heap.size,rfl,⟨by unfold Tak.cells;rw [hkn];exact HF.out.1,HF.out.2.2,Row.nil _ _ _⟩,by omega,by omega,HF.out.2.1⟩
theorem tNew_any (base r s p o:Nat) (hb0:base<65536) (hrb:ringB (r:Int)=true) (hs0:s<8) (hp0:p<8) (hsp:s≠p) (ho:o<65536) (w:World) (hg:Glob w):
  Calls Tryz.prog 46 #[.agg #[.int .i64 base, .int .i64 r], .int .i64 s, .int .i64 p, .int .i64 o] w fun e w'=>∃tk tt,e= .returned (.pointer (some ⟨tk,0,none⟩))∧TakAt w' tk tt (.slice none 0 0) (rawTak base r s p o)∧w.heap.size≤tk∧w.heap.size≤tt∧Below w.heap.size w w':=by
 by_cases h:o=0
 ·exact tNewZero base r s p o hb0 hrb hs0 hp0 hsp h w hg
 ·exact tNewPos base r s p o hb0 hrb hs0 hp0 hsp (by omega) ho w hg
end Go.Proofs.YtaaffebnajjfhaaGreatDoor.T
