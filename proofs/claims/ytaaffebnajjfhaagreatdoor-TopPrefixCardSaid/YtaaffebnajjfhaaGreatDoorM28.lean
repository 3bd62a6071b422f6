/- Texts of this proof, merged: GStepC, GStepD, GStepE, GAll. -/
import Derived.Test.YtaaffebnajjfhaaGreatDoorM11
import Derived.Test.YtaaffebnajjfhaaGreatDoorM27
import Derived.Test.YtaaffebnajjfhaaGreatDoorM25
import Derived.Test.YtaaffebnajjfhaaGreatDoorM24
namespace Go.Proofs.YtaaffebnajjfhaaGreatDoor.T
set_option linter.unusedVariables false
set_option linter.unusedSimpArgs false
set_option linter.unusedSectionVars false
open Go.RowKit
section
variable (b : Nat) (vf vo vl : Value) (g : Giv) (w : World) (p : Value) (x : Int) (T : World → Prop) (h : GivAt w b vf vo vl g) (hT : Calls Tryz.prog 158 #[.pointer (some ⟨b, 0, none⟩), p] w fun e w' => e = .returned (.int .i64 x) ∧ T w') (hg : ∀ w', T w' → GivAt w' b vf vo vl g)
include h hT hg
set_option maxHeartbeats 2000000 in
set_option maxRecDepth 100000 in
theorem gStep7s (hpc : g.pc = 7) (y k : Nat) (hxx : x = (y : Int)) (hx : g.out.findIdx? (fun (z : Nat) => (z : Int) == (y : Int)) = some k) (hl0 : 0 < g.left) (hl1 : g.left ≤ 65536) (hlen : g.free.length + g.out.length ≤ 64) (g2 : Giv) (hg2 : g.back k y = g2) (hleft : g2.left = 0) (d : Nat) (r : List Nat) (hfr : g2.free = d :: r) (hll : g.load.length = 0) :
    Calls Tryz.prog 157 #[.pointer (some ⟨b, 0, none⟩), p] w fun e w' => e = .returned (.tuple #[.bool false, .int .i64 0]) ∧ ∃ w1, T w1 ∧ GivTo w1 b vf vo vl ({ g2 with pc := 9, i := 0, d := d, free := r, out := g2.out ++ [d] }) w' := by
  have c11 := h.blk.cell 11
  simp only [Giv.cells, List.getElem?_cons_zero, List.getElem?_cons_succ, hpc] at c11
  have HHX := Lib.hid (And.intro hx (And.intro hl0 (And.intro hl1 hg2))); clear hx hl0 hl1 hg2
  subst hxx
  obtain ⟨Al, cl, hvl, -, -⟩ := Row.slice h.load
  subst hvl
  generalize hnl : (nats g.load).length = nl at *
  have nl0 : nl = 0 := by rw [← hnl, nats_len]; exact hll
  subst nl0
  clear hll
  clear hnl
  have HT := Lib.hid hT; clear hT
  have HG := Lib.hid hg; clear hg h
  go_enter Tryz.func157, Tryz.ntmps157
  go_wp2_with fail
  refine wp_scope_once 1 rfl ?_
  go_wp2_with fail
  refine HT.out.mono ?_
  rintro e w1 ⟨rfl, ht⟩
  have hw1 := HG.out w1 ht
  have HW := Lib.hid ht; clear ht
  have c11 := hw1.blk.cell 11
  simp only [Giv.cells, List.getElem?_cons_zero, List.getElem?_cons_succ, hpc] at c11
  have hs1 := GS.start hw1; clear hw1
  have HR := Lib.hid (gReturned_yes b vf vo _ g y k HHX.out.1 hlen HHX.out.2.1 HHX.out.2.2.1 w1 hs1.giv)
  have HS1 := Lib.hid hs1; clear hs1
  have HLE := Lib.hid hleft; clear hleft
  have HFR := Lib.hid hfr; clear hfr
  have HLN := Lib.hid hlen; clear hlen
  go_wp2_with fail
  refine HR.out.mono ?_
  rintro e w2 ⟨rfl, vf2, vo2, h2, hk2, ho2, hf2⟩
  have hs3 := HS1.out.back h2 hk2 ho2 hf2
  rw [HHX.out.2.2.2] at hs3
  have hln2 : g2.free.length + g2.out.length ≤ 64 := by
    have := HHX.out.2.2.2
    subst this
    have hk := (List.findIdx?_eq_some_iff_getElem.1 HHX.out.1).1
    have := HLN.out
    show (g.free ++ [y]).length + (g.out.eraseIdx k).length ≤ 64
    rw [List.length_append, List.length_eraseIdx, if_pos hk]
    simp only [List.length_cons, List.length_nil]
    omega
  clear h2 hk2 ho2 hf2
  obtain ⟨Ao, co, hvo, -, -⟩ := Row.slice hs3.giv.out
  obtain ⟨gf, of, cf, hvf, -, -, hfc⟩ := Row.cells hs3.giv.free (by rw [nats_len, HFR.out]; simp)
  clear hfc
  subst hvo hvf
  generalize hno : (nats g2.out).length = no at *
  generalize hnf : (nats g2.free).length = nf at *
  have nf0 : ((nf : Int) == 0) = false := by rw [beq_eq_false_iff_ne, ← hnf, nats_len, HFR.out]; simp only [List.length_cons]; omega
  have nf1 : (0 : Int) < (nf : Int) := by rw [← hnf, nats_len, HFR.out]; simp only [List.length_cons]; omega
  have no0 : (0 : Int) ≤ (no : Int) := by omega
  have HX := Lib.hid (And.intro HFR.out (And.intro hln2 (And.intro hno hnf))); clear hln2 hno hnf
  have HS3 := Lib.hid hs3; clear hs3
  go_wp2_with fail
  go_step3
  refine ⟨rfl, ?_⟩
  have hs3 := HS3.out
  have hleft := HLE.out
  have c7 := hs3.giv.blk.cell 7
  have c8 := hs3.giv.blk.cell 8
  have c11 := hs3.giv.blk.cell 11
  have c12 := hs3.giv.blk.cell 12
  have c13 := hs3.giv.blk.cell 13
  have c14 := hs3.giv.blk.cell 14
  have c16 := hs3.giv.blk.cell 16
  simp only [Giv.cells, List.getElem?_cons_zero, List.getElem?_cons_succ, hleft] at c7 c8 c11 c12 c13 c14 c16
  have f7 := hs3.giv.blk.free 7
  have f8 := hs3.giv.blk.free 8
  have f11 := hs3.giv.blk.free 11
  have f12 := hs3.giv.blk.free 12
  have f14 := hs3.giv.blk.free 14
  have hcf0 : w2.cell? ⟨gf, of, none⟩ = some (.int .i64 (d : Int)) := by
    obtain ⟨gf', of', cf', hvf', -, -, hcf⟩ := Row.cells hs3.giv.free (by rw [nats_len, HX.out.1]; simp)
    have hcf0 := (hcf 0 (by rw [nats_len, HX.out.1]; simp)).1
    injection hvf' with hv1 hv2 hv3
    injection hv1 with hv1
    injection hv1 with hv1 hv4
    subst hv1 hv4 hv3
    rw [show (ints (nats g2.free))[0]? = some (.int .i64 (d : Int)) by rw [HX.out.1]; rfl, Nat.add_zero] at hcf0
    exact hcf0
  have hne : gf ≠ b := fun e => Row.ne hs3.giv.free hs3.giv.blk (by decide) (by rw [← e]; rfl)
  have hne' : b ≠ gf := fun e => hne e.symm
  have hs4 := ((hs3.put (g' := { g2 with pc := 7 }) 11 (.int .i64 7) rfl rfl rfl rfl).put (g' := { g2 with pc := 7, i := 0 }) 12 (.int .i64 0) rfl rfl rfl rfl).put (g' := { g2 with pc := 7, i := 0, d := d }) 14 (.int .i64 d) rfl rfl rfl rfl
  have hD := delete_any _ (nats g2.free) 0 (by rw [nats_len, HX.out.1]; simp) (by rw [nats_len]; have := HX.out.2.1; omega) _ hs4.giv.free
  rw [nats_erase, show g2.free.eraseIdx 0 = r by rw [HX.out.1]; rfl] at hD
  have HD := Lib.hid hD; clear hD
  have HS4 := Lib.hid hs4; clear hs4 hs3
  go_wp2_with fail
  refine HD.out.mono ?_
  rintro e w4 ⟨vf4, rfl, hR4, ho4, hK4⟩
  have hs5 := HS4.out.setFree hK4 hR4 (fun q hq => .inl (by rw [← ho4]; exact hq))
  obtain ⟨A4, c4, hv4, -, -⟩ := Row.slice hR4
  subst hv4
  generalize hn4 : (nats r).length = n4 at *
  have b4 := HS4.out.giv.blk.keep hK4 (fun e => Row.ne HS4.out.giv.free HS4.out.giv.blk (by decide) e)
  have c7 : w4.cell? ⟨b, 7, none⟩ = some (.slice (some ⟨gf, of, none⟩) nf cf) := b4.cell 7
  have f7 := b4.free 7
  clear b4 ho4 hK4 hR4
  go_wp2_with fail
  generalize w4.setCell ⟨b, 7, none⟩ (Value.slice A4 n4 c4) = W5 at hs5 ⊢
  clear c7 f7 c8 c11 c12 c13 c14 c16 f8 f11 f12 f14
  have b5 := hs5.giv.blk
  have c8 : W5.cell? ⟨b, 8, none⟩ = some (.slice Ao no co) := b5.cell 8
  have c14 : W5.cell? ⟨b, 14, none⟩ = some (.int .i64 d) := b5.cell 14
  have b6 : Blk (W5.drew.alloc (.cells #[.int .i64 (d : Int)] 3)) b 159 _ := b5.drew.alloc _
  have c86 : (W5.alloc (.cells #[.int .i64 (d : Int)] 3)).cell? ⟨b, 8, none⟩ = some (.slice Ao no co) := b6.cell 8
  have r5 : RowI W5.drew (.slice Ao no co) (nats g2.out) := hs5.giv.out
  have hP : ∃ A7 c7 w7, (Builtin.append_ #[31, 31] 31 #[.slice Ao no co, .slice (some ⟨W5.heap.size, 0, none⟩) 1 1]).run Tryz.prog (W5.drew.alloc (.cells #[.int .i64 (d : Int)] 3)) = .ok (.slice A7 (no + 1) c7) w7 ∧
      Row w7 3 1 (.slice A7 (no + 1) c7) (no + 1) (ints (nats g2.out) ++ [.int .i64 (d : Int)]) ∧ (W5.drew.alloc (.cells #[.int .i64 (d : Int)] 3)).grownBy w7 (Value.slice Ao no co).ownBlock ∧
      ((Value.slice A7 (no + 1) c7).ownBlock = (Value.slice Ao no co).ownBlock ∨ ∃ b, (Value.slice A7 (no + 1) c7).ownBlock = some b ∧ (W5.drew.alloc (.cells #[.int .i64 (d : Int)] 3)).heap.size ≤ b) := by
    have hx := HX.out.2.2.1
    have hm := HX.out.2.1
    have := push_run W5.drew Ao co (nats g2.out) d (by rw [nats_len]; omega) (by rw [hx]; exact r5)
    rw [hx] at this
    exact this
  obtain ⟨A7, c7, w7, hr7, hR7, hg7, hat7⟩ := hP
  have b7 := b6.keep (Keep.grown hg7) (fun e => Row.ne r5 b5.drew (by decide) e)
  have c87 : w7.cell? ⟨b, 8, none⟩ = some (.slice Ao no co) := b7.cell 8
  have f87 := b7.free 8
  have HQ := Lib.hid (And.intro hR7 (And.intro hg7 hat7))
  clear r5 b6 b5 hR7 hg7 hat7 b7
  have HR7 := Lib.hid hr7; clear hr7
  go_region_law (refine push_step rfl _ _ rfl rfl rfl rfl HR7.out ?_)
  all_goals (
    obtain ⟨q1, q2, q3⟩ := push_out (xs := g2.out) HX.out.2.2.1 HQ.out.1 HQ.out.2.1 HQ.out.2.2
    have hs8 := hs5.setOut q2 q1 q3
    clear q1 q2 q3
    generalize w7.setCell ⟨b, 8, none⟩ (Value.slice A7 (no + 1) c7) = W8 at hs8 ⊢
    have c11 := hs8.giv.blk.cell 11
    have c12 := hs8.giv.blk.cell 12
    have c16 := hs8.giv.blk.cell 16
    simp only [Giv.cells, List.getElem?_cons_zero, List.getElem?_cons_succ] at c11 c12 c16
    have f11 := hs8.giv.blk.free 11
    go_wp2_with fail
    go_step3
    go_wp2_with fail
    go_region
    go_wp2_with fail
    rw [Exit.noGoto_ret]
    go_ret2
    exact ⟨rfl, w1, HW.out, (((hs8.put (g' := { g2 with pc := 8, i := 0, d := d, free := r, out := g2.out ++ [d] }) 11 (.int .i64 8) rfl rfl rfl rfl).drew).put (g' := { g2 with pc := 9, i := 0, d := d, free := r, out := g2.out ++ [d] }) 11 (.int .i64 9) rfl rfl rfl rfl).to⟩)
end
end Go.Proofs.YtaaffebnajjfhaaGreatDoor.T
namespace Go.Proofs.YtaaffebnajjfhaaGreatDoor.T
set_option linter.unusedVariables false
set_option linter.unusedSimpArgs false
set_option linter.unusedSectionVars false
open Go.RowKit
section
variable (b : Nat) (vf vo vl : Value) (g : Giv) (w : World) (p : Value) (x : Int) (T : World → Prop) (h : GivAt w b vf vo vl g) (hT : Calls Tryz.prog 158 #[.pointer (some ⟨b, 0, none⟩), p] w fun e w' => e = .returned (.int .i64 x) ∧ T w') (hg : ∀ w', T w' → GivAt w' b vf vo vl g)
include h hT hg
set_option maxRecDepth 100000 in
theorem gStep6c (hpc : g.pc = 6) (l : Nat) (hl : (x - g.tail) % 65536 = (l : Int)) (hlt : g.out.length < l) :
    Calls Tryz.prog 157 #[.pointer (some ⟨b, 0, none⟩), p] w fun e w' => e = .returned (.tuple #[.bool false, .int .i64 0]) ∧ ∃ w1, T w1 ∧ GivTo w1 b vf vo vl ({ g with left := l, pc := 15, answer := 10 }) w' := by
  have c11 := h.blk.cell 11
  simp only [Giv.cells, List.getElem?_cons_zero, List.getElem?_cons_succ, hpc] at c11
  have hS := sub_any x g.tail
  rw [hl] at hS
  have HS := Lib.hid hS; clear hS hl
  obtain ⟨Ao, co, hvo, -, -⟩ := Row.slice h.out
  subst hvo
  have ll0 : ((nats g.out).length : Int) < (l : Int) := by rw [nats_len]; omega
  generalize (nats g.out).length = no at *
  clear hlt
  have HT := Lib.hid hT; clear hT
  have HG := Lib.hid hg; clear hg h
  go_enter Tryz.func157, Tryz.ntmps157
  go_wp2_with fail
  refine wp_scope_once 0 rfl ?_
  go_wp2_with fail
  refine HT.out.mono ?_
  rintro e w1 ⟨rfl, ht⟩
  have hw1 := HG.out w1 ht
  have HW := Lib.hid ht; clear ht
  have c11 := hw1.blk.cell 11
  simp only [Giv.cells, List.getElem?_cons_zero, List.getElem?_cons_succ, hpc] at c11
  have hs1 := GS.start hw1; clear hw1
  have c10 := hs1.giv.blk.cell 10
  have c13 := hs1.giv.blk.cell 13
  simp only [Giv.cells, List.getElem?_cons_zero, List.getElem?_cons_succ] at c10 c13
  have f13 := hs1.giv.blk.free 13
  go_wp2_with fail
  refine (HS.out _).mono ?_
  rintro e w2 ⟨rfl, rfl⟩
  have hs2 := hs1.put (g' := { g with left := l }) 13 (.int .i64 l) rfl rfl rfl rfl
  clear hs1
  have c8 := hs2.giv.blk.cell 8
  have c13 := hs2.giv.blk.cell 13
  simp only [Giv.cells, List.getElem?_cons_zero, List.getElem?_cons_succ] at c8 c13
  go_wp2_with fail
  go_region
  go_wp2_with fail
  go_step3
  refine ⟨rfl, ?_⟩
  have hs3 := hs2.drew
  clear hs2 c8 c13
  generalize (w1.setCell ⟨b, 13, none⟩ (Value.int IntKind.i64 (l : Int))).drew = W3 at hs3 ⊢
  have c11 := hs3.giv.blk.cell 11
  have c15 := hs3.giv.blk.cell 15
  simp only [Giv.cells, List.getElem?_cons_zero, List.getElem?_cons_succ] at c11 c15
  have f11 := hs3.giv.blk.free 11
  have f15 := hs3.giv.blk.free 15
  have HF := Lib.hid ((hs3.put (g' := { g with left := l, pc := 15 }) 11 (.int .i64 15) rfl rfl rfl rfl).put (g' := { g with left := l, pc := 15, answer := 10 }) 15 (.int .i64 10) rfl rfl rfl rfl); clear hs3
  go_wp2_with fail
  rw [Exit.noGoto_ret]
  go_ret2
  exact ⟨rfl, w1, HW.out, HF.out.to⟩
set_option maxRecDepth 100000 in
theorem gStep6l (hpc : g.pc = 6) (l : Nat) (hl : (x - g.tail) % 65536 = (l : Int)) (hlt : l ≤ g.out.length) (h0 : 0 < l) :
    Calls Tryz.prog 157 #[.pointer (some ⟨b, 0, none⟩), p] w fun e w' => e = .returned (.tuple #[.bool false, .int .i64 0]) ∧ ∃ w1, T w1 ∧ GivTo w1 b vf vo vl ({ g with left := l, pc := 7, i := 0 }) w' := by
  have c11 := h.blk.cell 11
  simp only [Giv.cells, List.getElem?_cons_zero, List.getElem?_cons_succ, hpc] at c11
  have hS := sub_any x g.tail
  rw [hl] at hS
  have HS := Lib.hid hS; clear hS hl
  obtain ⟨Ao, co, hvo, -, -⟩ := Row.slice h.out
  subst hvo
  have ll0 : (l : Int) ≤ ((nats g.out).length : Int) := by rw [nats_len]; omega
  have ll1 : (0 : Int) < (l : Int) := by omega
  generalize (nats g.out).length = no at *
  clear hlt h0
  have HT := Lib.hid hT; clear hT
  have HG := Lib.hid hg; clear hg h
  go_enter Tryz.func157, Tryz.ntmps157
  go_wp2_with fail
  refine wp_scope_once 1 rfl ?_
  go_wp2_with fail
  refine HT.out.mono ?_
  rintro e w1 ⟨rfl, ht⟩
  have hw1 := HG.out w1 ht
  have HW := Lib.hid ht; clear ht
  have c11 := hw1.blk.cell 11
  simp only [Giv.cells, List.getElem?_cons_zero, List.getElem?_cons_succ, hpc] at c11
  have hs1 := GS.start hw1; clear hw1
  have c10 := hs1.giv.blk.cell 10
  have c13 := hs1.giv.blk.cell 13
  simp only [Giv.cells, List.getElem?_cons_zero, List.getElem?_cons_succ] at c10 c13
  have f13 := hs1.giv.blk.free 13
  go_wp2_with fail
  refine (HS.out _).mono ?_
  rintro e w2 ⟨rfl, rfl⟩
  have hs2 := hs1.put (g' := { g with left := l }) 13 (.int .i64 l) rfl rfl rfl rfl
  clear hs1
  have c8 := hs2.giv.blk.cell 8
  have c13 := hs2.giv.blk.cell 13
  simp only [Giv.cells, List.getElem?_cons_zero, List.getElem?_cons_succ] at c8 c13
  go_wp2_with fail
  go_region
  go_wp2_with fail
  go_step3
  refine ⟨rfl, ?_⟩
  have hs3 := hs2.drew
  clear hs2 c8 c13
  generalize (w1.setCell ⟨b, 13, none⟩ (Value.int IntKind.i64 (l : Int))).drew = W3 at hs3 ⊢
  have c11 := hs3.giv.blk.cell 11
  have c12 := hs3.giv.blk.cell 12
  have c13 := hs3.giv.blk.cell 13
  simp only [Giv.cells, List.getElem?_cons_zero, List.getElem?_cons_succ] at c11 c12 c13
  have f11 := hs3.giv.blk.free 11
  have f12 := hs3.giv.blk.free 12
  have HF := Lib.hid ((hs3.put (g' := { g with left := l, pc := 7 }) 11 (.int .i64 7) rfl rfl rfl rfl).put (g' := { g with left := l, pc := 7, i := 0 }) 12 (.int .i64 0) rfl rfl rfl rfl); clear hs3
  go_wp2_with fail
  rw [Exit.noGoto_ret]
  go_ret2
  exact ⟨rfl, w1, HW.out, HF.out.to⟩
set_option maxRecDepth 100000 in
theorem gStep6f (hpc : g.pc = 6) (hl : (x - g.tail) % 65536 = 0) (hfr : g.free = []) :
    Calls Tryz.prog 157 #[.pointer (some ⟨b, 0, none⟩), p] w fun e w' => e = .returned (.tuple #[.bool false, .int .i64 0]) ∧ ∃ w1, T w1 ∧ GivTo w1 b vf vo vl ({ g with left := 0, pc := 15, i := 0, answer := 5 }) w' := by
  have c11 := h.blk.cell 11
  simp only [Giv.cells, List.getElem?_cons_zero, List.getElem?_cons_succ, hpc] at c11
  have hS := sub_any x g.tail
  rw [hl] at hS
  have HS := Lib.hid hS; clear hS hl
  obtain ⟨Ao, co, hvo, -, -⟩ := Row.slice h.out
  obtain ⟨Af, cf, hvf, -, -⟩ := Row.slice h.free
  subst hvo hvf
  have no0 : (0 : Int) ≤ ((nats g.out).length : Int) := by omega
  have nf0 : (nats g.free).length = 0 := by rw [nats_len, hfr]; rfl
  generalize (nats g.out).length = no at *
  generalize (nats g.free).length = nf at *
  subst nf0
  clear hfr
  have HT := Lib.hid hT; clear hT
  have HG := Lib.hid hg; clear hg h
  go_enter Tryz.func157, Tryz.ntmps157
  go_wp2_with fail
  refine wp_scope_once 1 rfl ?_
  go_wp2_with fail
  refine HT.out.mono ?_
  rintro e w1 ⟨rfl, ht⟩
  have hw1 := HG.out w1 ht
  have HW := Lib.hid ht; clear ht
  have c11 := hw1.blk.cell 11
  simp only [Giv.cells, List.getElem?_cons_zero, List.getElem?_cons_succ, hpc] at c11
  have hs1 := GS.start hw1; clear hw1
  have c10 := hs1.giv.blk.cell 10
  have c13 := hs1.giv.blk.cell 13
  simp only [Giv.cells, List.getElem?_cons_zero, List.getElem?_cons_succ] at c10 c13
  have f13 := hs1.giv.blk.free 13
  go_wp2_with fail
  refine (HS.out _).mono ?_
  rintro e w2 ⟨rfl, rfl⟩
  have hs2 := hs1.put (g' := { g with left := 0 }) 13 (.int .i64 0) rfl rfl rfl rfl
  clear hs1
  have c8 := hs2.giv.blk.cell 8
  have c13 := hs2.giv.blk.cell 13
  simp only [Giv.cells, List.getElem?_cons_zero, List.getElem?_cons_succ] at c8 c13
  go_wp2_with fail
  go_region
  go_wp2_with fail
  go_step3
  refine ⟨rfl, ?_⟩
  have hs3 := hs2.drew
  clear hs2 c8 c13
  generalize (w1.setCell ⟨b, 13, none⟩ (Value.int IntKind.i64 0)).drew = W3 at hs3 ⊢
  have c7 := hs3.giv.blk.cell 7
  have c11 := hs3.giv.blk.cell 11
  have c12 := hs3.giv.blk.cell 12
  have c13 := hs3.giv.blk.cell 13
  have c15 := hs3.giv.blk.cell 15
  simp only [Giv.cells, List.getElem?_cons_zero, List.getElem?_cons_succ] at c7 c11 c12 c13 c15
  have f11 := hs3.giv.blk.free 11
  have f12 := hs3.giv.blk.free 12
  have f15 := hs3.giv.blk.free 15
  have HF := Lib.hid ((((hs3.put (g' := { g with left := 0, pc := 7 }) 11 (.int .i64 7) rfl rfl rfl rfl).put (g' := { g with left := 0, pc := 7, i := 0 }) 12 (.int .i64 0) rfl rfl rfl rfl).put (g' := { g with left := 0, pc := 15, i := 0 }) 11 (.int .i64 15) rfl rfl rfl rfl).put (g' := { g with left := 0, pc := 15, i := 0, answer := 5 }) 15 (.int .i64 5) rfl rfl rfl rfl); clear hs3
  go_wp2_with fail
  rw [Exit.noGoto_ret]
  go_ret2
  exact ⟨rfl, w1, HW.out, HF.out.to⟩
set_option maxRecDepth 100000 in
theorem gStep7c (hpc : g.pc = 7) (hx : g.out.findIdx? (fun (y : Nat) => (y : Int) == x) = none) (hlen : g.out.length ≤ 64) :
    Calls Tryz.prog 157 #[.pointer (some ⟨b, 0, none⟩), p] w fun e w' => e = .returned (.tuple #[.bool false, .int .i64 0]) ∧ ∃ w1, T w1 ∧ GivTo w1 b vf vo vl (g.corrupt) w' := by
  have c11 := h.blk.cell 11
  simp only [Giv.cells, List.getElem?_cons_zero, List.getElem?_cons_succ, hpc] at c11
  have HT := Lib.hid hT; clear hT
  have HG := Lib.hid hg; clear hg h
  go_enter Tryz.func157, Tryz.ntmps157
  go_wp2_with fail
  refine wp_scope_once 0 rfl ?_
  go_wp2_with fail
  refine HT.out.mono ?_
  rintro e w1 ⟨rfl, ht⟩
  have hw1 := HG.out w1 ht
  have HW := Lib.hid ht; clear ht
  have c11 := hw1.blk.cell 11
  simp only [Giv.cells, List.getElem?_cons_zero, List.getElem?_cons_succ, hpc] at c11
  have hs1 := GS.start hw1; clear hw1
  have HR := Lib.hid (gReturned_no b vf vo vl g x hx hlen w1 hs1.giv)
  have HS1 := Lib.hid hs1; clear hs1 hx
  go_wp2_with fail
  refine HR.out.mono ?_
  rintro e w2 ⟨rfl, rfl⟩
  go_wp2_with fail
  go_step3
  refine ⟨rfl, ?_⟩
  have hs3 := HS1.out
  clear c11
  have c11 := hs3.giv.blk.cell 11
  have c15 := hs3.giv.blk.cell 15
  simp only [Giv.cells, List.getElem?_cons_zero, List.getElem?_cons_succ] at c11 c15
  have f11 := hs3.giv.blk.free 11
  have f15 := hs3.giv.blk.free 15
  have HF := Lib.hid ((hs3.put (g' := { g with pc := 15 }) 11 (.int .i64 15) rfl rfl rfl rfl).put (g' := g.corrupt) 15 (.int .i64 10) rfl rfl rfl rfl); clear hs3
  go_wp2_with fail
  rw [Exit.noGoto_ret]
  go_ret2
  exact ⟨rfl, w1, HW.out, HF.out.to⟩
set_option maxRecDepth 100000 in
theorem gStep7l (hpc : g.pc = 7) (y k : Nat) (hxx : x = (y : Int)) (hx : g.out.findIdx? (fun (z : Nat) => (z : Int) == (y : Int)) = some k) (hl0 : 0 < g.left) (hl1 : g.left ≤ 65536) (hlen : g.free.length + g.out.length ≤ 64) (g2 : Giv) (hg2 : g.back k y = g2) (hleft : 0 < g2.left) :
    Calls Tryz.prog 157 #[.pointer (some ⟨b, 0, none⟩), p] w fun e w' => e = .returned (.tuple #[.bool false, .int .i64 0]) ∧ ∃ w1, T w1 ∧ GivTo w1 b vf vo vl ({ g2 with pc := 7, i := 0 }) w' := by
  have c11 := h.blk.cell 11
  simp only [Giv.cells, List.getElem?_cons_zero, List.getElem?_cons_succ, hpc] at c11
  subst hxx
  have HT := Lib.hid hT; clear hT
  have HG := Lib.hid hg; clear hg h
  go_enter Tryz.func157, Tryz.ntmps157
  go_wp2_with fail
  refine wp_scope_once 1 rfl ?_
  go_wp2_with fail
  refine HT.out.mono ?_
  rintro e w1 ⟨rfl, ht⟩
  have hw1 := HG.out w1 ht
  have HW := Lib.hid ht; clear ht
  have c11 := hw1.blk.cell 11
  simp only [Giv.cells, List.getElem?_cons_zero, List.getElem?_cons_succ, hpc] at c11
  have hs1 := GS.start hw1; clear hw1
  have HR := Lib.hid (gReturned_yes b vf vo _ g y k hx hlen hl0 hl1 w1 hs1.giv)
  have HS1 := Lib.hid hs1; clear hs1
  have HHX := Lib.hid hg2; clear hx hl0 hl1 hg2
  have hl1 : (0 : Int) < (g2.left : Int) := by omega
  go_wp2_with fail
  refine HR.out.mono ?_
  rintro e w2 ⟨rfl, vf2, vo2, h2, hk2, ho2, hf2⟩
  have hs3 := HS1.out.back h2 hk2 ho2 hf2
  rw [HHX.out] at hs3
  clear h2 hk2 ho2 hf2
  have HS3 := Lib.hid hs3; clear hs3
  go_wp2_with fail
  go_step3
  refine ⟨rfl, ?_⟩
  have hs3 := HS3.out
  have c11 := hs3.giv.blk.cell 11
  have c12 := hs3.giv.blk.cell 12
  have c13 := hs3.giv.blk.cell 13
  simp only [Giv.cells, List.getElem?_cons_zero, List.getElem?_cons_succ] at c11 c12 c13
  have f11 := hs3.giv.blk.free 11
  have f12 := hs3.giv.blk.free 12
  have HF := Lib.hid ((hs3.put (g' := { g2 with pc := 7 }) 11 (.int .i64 7) rfl rfl rfl rfl).put (g' := { g2 with pc := 7, i := 0 }) 12 (.int .i64 0) rfl rfl rfl rfl); clear hs3
  go_wp2_with fail
  rw [Exit.noGoto_ret]
  go_ret2
  exact ⟨rfl, w1, HW.out, HF.out.to⟩
end
end Go.Proofs.YtaaffebnajjfhaaGreatDoor.T
namespace Go.Proofs.YtaaffebnajjfhaaGreatDoor.T
set_option linter.unusedVariables false
set_option linter.unusedSimpArgs false
set_option linter.unusedSectionVars false
open Go.RowKit
section
variable (b : Nat) (vf vo vl : Value) (g : Giv) (w : World) (p : Value) (x : Int) (T : World → Prop) (h : GivAt w b vf vo vl g) (hT : Calls Tryz.prog 158 #[.pointer (some ⟨b, 0, none⟩), p] w fun e w' => e = .returned (.int .i64 x) ∧ T w') (hg : ∀ w', T w' → GivAt w' b vf vo vl g)
include h hT hg
set_option maxRecDepth 100000 in
theorem gStep8w (hpc : g.pc = 8) (hi : g.i ≤ 8) (hll : g.i + 1 < g.load.length) :
    Calls Tryz.prog 157 #[.pointer (some ⟨b, 0, none⟩), p] w fun e w' => e = .returned (.tuple #[.bool false, .int .i64 0]) ∧ ∃ w1, T w1 ∧ GivTo w1 b vf vo vl ({ g with i := g.i + 1, pc := 8 }) w' := by
  have c11 := h.blk.cell 11
  simp only [Giv.cells, List.getElem?_cons_zero, List.getElem?_cons_succ, hpc] at c11
  obtain ⟨Al, cl, hvl, -, -⟩ := Row.slice h.load
  subst hvl
  generalize hnl : (nats g.load).length = nl at *
  have nl0 : (g.i : Int) + 1 < (nl : Int) := by rw [← hnl, nats_len]; omega
  have nl1 : IntKind.i64.wrap ((g.i : Int) + 1) = (g.i : Int) + 1 := by rw [IntKind.wrap_i64]; omega
  clear hnl hll
  have HT := Lib.hid hT; clear hT
  have HG := Lib.hid hg; clear hg h
  go_enter Tryz.func157, Tryz.ntmps157
  go_wp2_with fail
  refine wp_scope_once 2 rfl ?_
  go_wp2_with fail
  refine HT.out.mono ?_
  rintro e w1 ⟨rfl, ht⟩
  have hw1 := HG.out w1 ht
  have HW := Lib.hid ht; clear ht
  have c11 := hw1.blk.cell 11
  simp only [Giv.cells, List.getElem?_cons_zero, List.getElem?_cons_succ, hpc] at c11
  have hs1 := GS.start hw1; clear hw1
  have c12 := hs1.giv.blk.cell 12
  simp only [Giv.cells, List.getElem?_cons_zero, List.getElem?_cons_succ] at c12
  have f12 := hs1.giv.blk.free 12
  have he : ((g.i : Int) + 1) = ((g.i + 1 : Nat) : Int) := by omega
  have hs2 := hs1.put (g' := { g with i := g.i + 1 }) 12 (.int .i64 ((g.i : Int) + 1)) (by rw [he]; rfl) rfl rfl rfl
  have HS2 := Lib.hid hs2; clear hs1 hs2 he
  go_wp2_with fail
  go_step3
  refine ⟨rfl, ?_⟩
  have hs3 := HS2.out
  clear c11 c12 f12
  generalize w1.setCell ⟨b, 12, none⟩ (Value.int IntKind.i64 ((g.i : Int) + 1)) = W3 at hs3 ⊢
  have c12 : W3.cell? ⟨b, 12, none⟩ = some (.int .i64 ((g.i : Int) + 1)) := by have := hs3.giv.blk.cell 12; simpa [Giv.cells] using this
  have c11 := hs3.giv.blk.cell 11
  have c16 := hs3.giv.blk.cell 16
  simp only [Giv.cells, List.getElem?_cons_zero, List.getElem?_cons_succ] at c11 c16
  have f11 := hs3.giv.blk.free 11
  go_wp2_with fail
  go_region
  go_wp2_with fail
  rw [Exit.noGoto_ret]
  go_ret2
  exact ⟨rfl, w1, HW.out, ((hs3.put (g' := { g with i := g.i + 1, pc := 8 }) 11 (.int .i64 8) rfl rfl rfl rfl).drew).to⟩
set_option maxRecDepth 100000 in
theorem gStep8s (hpc : g.pc = 8) (hi : g.i ≤ 8) (hll : g.load.length ≤ g.i + 1) :
    Calls Tryz.prog 157 #[.pointer (some ⟨b, 0, none⟩), p] w fun e w' => e = .returned (.tuple #[.bool false, .int .i64 0]) ∧ ∃ w1, T w1 ∧ GivTo w1 b vf vo vl ({ g with i := g.i + 1, pc := 9 }) w' := by
  have c11 := h.blk.cell 11
  simp only [Giv.cells, List.getElem?_cons_zero, List.getElem?_cons_succ, hpc] at c11
  obtain ⟨Al, cl, hvl, -, -⟩ := Row.slice h.load
  subst hvl
  generalize hnl : (nats g.load).length = nl at *
  have nl0 : (nl : Int) ≤ (g.i : Int) + 1 := by rw [← hnl, nats_len]; omega
  have nl1 : IntKind.i64.wrap ((g.i : Int) + 1) = (g.i : Int) + 1 := by rw [IntKind.wrap_i64]; omega
  clear hnl hll
  have HT := Lib.hid hT; clear hT
  have HG := Lib.hid hg; clear hg h
  go_enter Tryz.func157, Tryz.ntmps157
  go_wp2_with fail
  refine wp_scope_once 2 rfl ?_
  go_wp2_with fail
  refine HT.out.mono ?_
  rintro e w1 ⟨rfl, ht⟩
  have hw1 := HG.out w1 ht
  have HW := Lib.hid ht; clear ht
  have c11 := hw1.blk.cell 11
  simp only [Giv.cells, List.getElem?_cons_zero, List.getElem?_cons_succ, hpc] at c11
  have hs1 := GS.start hw1; clear hw1
  have c12 := hs1.giv.blk.cell 12
  simp only [Giv.cells, List.getElem?_cons_zero, List.getElem?_cons_succ] at c12
  have f12 := hs1.giv.blk.free 12
  have he : ((g.i : Int) + 1) = ((g.i + 1 : Nat) : Int) := by omega
  have hs2 := hs1.put (g' := { g with i := g.i + 1 }) 12 (.int .i64 ((g.i : Int) + 1)) (by rw [he]; rfl) rfl rfl rfl
  have HS2 := Lib.hid hs2; clear hs1 hs2 he
  go_wp2_with fail
  go_step3
  refine ⟨rfl, ?_⟩
  have hs3 := HS2.out
  clear c11 c12 f12
  generalize w1.setCell ⟨b, 12, none⟩ (Value.int IntKind.i64 ((g.i : Int) + 1)) = W3 at hs3 ⊢
  have c12 : W3.cell? ⟨b, 12, none⟩ = some (.int .i64 ((g.i : Int) + 1)) := by have := hs3.giv.blk.cell 12; simpa [Giv.cells] using this
  have c11 := hs3.giv.blk.cell 11
  have c16 := hs3.giv.blk.cell 16
  simp only [Giv.cells, List.getElem?_cons_zero, List.getElem?_cons_succ] at c11 c16
  have f11 := hs3.giv.blk.free 11
  go_wp2_with fail
  go_region
  go_wp2_with fail
  rw [Exit.noGoto_ret]
  go_ret2
  exact ⟨rfl, w1, HW.out, (((hs3.put (g' := { g with i := g.i + 1, pc := 8 }) 11 (.int .i64 8) rfl rfl rfl rfl).drew).put (g' := { g with i := g.i + 1, pc := 9 }) 11 (.int .i64 9) rfl rfl rfl rfl).to⟩
set_option maxRecDepth 100000 in
theorem gStep4 (hpc : g.pc = 4) (hr1 : 1 ≤ g.ring) (hr : g.ring ≤ 64) :
    Calls Tryz.prog 157 #[.pointer (some ⟨b, 0, none⟩), p] w fun e w' => e = .returned (.tuple #[.bool true, .int .i64 8]) ∧ ∃ w1, T w1 ∧ GivTo w1 b vf vo vl (g.first) w' := by
  have c11 := h.blk.cell 11
  simp only [Giv.cells, List.getElem?_cons_zero, List.getElem?_cons_succ, hpc] at c11
  have HT := Lib.hid hT; clear hT
  have HG := Lib.hid hg; clear hg h
  go_enter Tryz.func157, Tryz.ntmps157
  go_wp2_with fail
  go_step3
  go_wp2_with fail
  refine HT.out.mono ?_
  rintro e w1 ⟨rfl, ht⟩
  have hw1 := HG.out w1 ht
  have HW := Lib.hid ht; clear ht
  have c11 := hw1.blk.cell 11
  simp only [Giv.cells, List.getElem?_cons_zero, List.getElem?_cons_succ, hpc] at c11
  have hs1 := GS.start hw1; clear hw1
  have HF := Lib.hid (gFirst_any b vf vo vl g hr1 hr w1 hs1.giv)
  have HS1 := Lib.hid hs1; clear hs1
  go_wp2_with fail
  refine HF.out.mono ?_
  rintro e w2 ⟨rfl, vf2, h2, hk2, hf2⟩
  have hs3 := HS1.out.first h2 hk2 hf2
  have HS3 := Lib.hid hs3; clear h2 hk2 hf2 hs3
  go_wp2_with fail
  rw [Exit.noGoto_ret]
  go_ret2
  exact ⟨rfl, w1, HW.out, HS3.out.to⟩
set_option maxRecDepth 100000 in
theorem gStep5y (hpc : g.pc = 5) (hx : x = g.ep) :
    Calls Tryz.prog 157 #[.pointer (some ⟨b, 0, none⟩), p] w fun e w' => e = .returned (.tuple #[.bool false, .int .i64 0]) ∧ ∃ w1, T w1 ∧ GivTo w1 b vf vo vl ({ g with linked := true, pc := 6 }) w' := by
  have c11 := h.blk.cell 11
  simp only [Giv.cells, List.getElem?_cons_zero, List.getElem?_cons_succ, hpc] at c11
  subst hx
  have HT := Lib.hid hT; clear hT
  have HG := Lib.hid hg; clear hg h
  go_enter Tryz.func157, Tryz.ntmps157
  go_wp2_with fail
  go_step3
  go_wp2_with fail
  refine HT.out.mono ?_
  rintro e w1 ⟨rfl, ht⟩
  have hw1 := HG.out w1 ht
  have HW := Lib.hid ht; clear ht
  have c11 := hw1.blk.cell 11
  simp only [Giv.cells, List.getElem?_cons_zero, List.getElem?_cons_succ, hpc] at c11
  have hs1 := GS.start hw1; clear hw1
  have HE := Lib.hid (from_below (Below.refl w1.heap.size w1) (gEpoch_any b vf vo vl g w1 hs1.giv))
  have HS1 := Lib.hid hs1; clear hs1
  generalize hge : g.ep = gep at *
  clear hge
  go_wp2_with fail
  refine HE.out.mono ?_
  rintro e w2 ⟨rfl, hb2⟩
  have hs2 := HS1.out.fresh hb2
  clear hb2 c11
  have c6 := hs2.giv.blk.cell 6
  have c11 := hs2.giv.blk.cell 11
  simp only [Giv.cells, List.getElem?_cons_zero, List.getElem?_cons_succ] at c6 c11
  have f6 := hs2.giv.blk.free 6
  have f11 := hs2.giv.blk.free 11
  have HF := Lib.hid ((hs2.put (g' := { g with linked := true }) 6 (.bool true) rfl rfl rfl rfl).put (g' := { g with linked := true, pc := 6 }) 11 (.int .i64 6) rfl rfl rfl rfl); clear hs2
  go_wp2_with fail
  rw [Exit.noGoto_ret]
  go_ret2
  exact ⟨rfl, w1, HW.out, HF.out.to⟩
set_option maxRecDepth 100000 in
theorem gStep5n (hpc : g.pc = 5) (hx : x ≠ g.ep) :
    Calls Tryz.prog 157 #[.pointer (some ⟨b, 0, none⟩), p] w fun e w' => e = .returned (.tuple #[.bool true, .int .i64 9]) ∧ ∃ w1, T w1 ∧ GivTo w1 b vf vo vl ({ g with pc := 0 }) w' := by
  have c11 := h.blk.cell 11
  simp only [Giv.cells, List.getElem?_cons_zero, List.getElem?_cons_succ, hpc] at c11
  have hx0 : (x == g.ep) = false := by simpa using hx
  have HT := Lib.hid hT; clear hT
  have HG := Lib.hid hg; clear hg h
  go_enter Tryz.func157, Tryz.ntmps157
  go_wp2_with fail
  go_step3
  go_wp2_with fail
  refine HT.out.mono ?_
  rintro e w1 ⟨rfl, ht⟩
  have hw1 := HG.out w1 ht
  have HW := Lib.hid ht; clear ht
  have c11 := hw1.blk.cell 11
  simp only [Giv.cells, List.getElem?_cons_zero, List.getElem?_cons_succ, hpc] at c11
  have hs1 := GS.start hw1; clear hw1
  have HE := Lib.hid (from_below (Below.refl w1.heap.size w1) (gEpoch_any b vf vo vl g w1 hs1.giv))
  have HS1 := Lib.hid hs1; clear hs1
  generalize hge : g.ep = gep at *
  clear hge
  go_wp2_with fail
  refine HE.out.mono ?_
  rintro e w2 ⟨rfl, hb2⟩
  have hs2 := HS1.out.fresh hb2
  clear hb2 c11
  have c6 := hs2.giv.blk.cell 6
  have c11 := hs2.giv.blk.cell 11
  simp only [Giv.cells, List.getElem?_cons_zero, List.getElem?_cons_succ] at c6 c11
  have f6 := hs2.giv.blk.free 6
  have f11 := hs2.giv.blk.free 11
  have HF := Lib.hid (hs2.put (g' := { g with pc := 0 }) 11 (.int .i64 0) rfl rfl rfl rfl); clear hs2
  go_wp2_with fail
  rw [Exit.noGoto_ret]
  go_ret2
  exact ⟨rfl, w1, HW.out, HF.out.to⟩
set_option maxRecDepth 100000 in
theorem gStep14 (hpc : g.pc = 14)  :
    Calls Tryz.prog 157 #[.pointer (some ⟨b, 0, none⟩), p] w fun e w' => e = .returned (.tuple #[.bool false, .int .i64 0]) ∧ ∃ w1, T w1 ∧ GivTo w1 b vf vo vl ({ g with pc := 15, answer := 0 }) w' := by
  have c11 := h.blk.cell 11
  simp only [Giv.cells, List.getElem?_cons_zero, List.getElem?_cons_succ, hpc] at c11
  have HT := Lib.hid hT; clear hT
  have HG := Lib.hid hg; clear hg h
  go_enter Tryz.func157, Tryz.ntmps157
  go_wp2_with fail
  go_step3
  go_wp2_with fail
  refine HT.out.mono ?_
  rintro e w1 ⟨rfl, ht⟩
  have hw1 := HG.out w1 ht
  have HW := Lib.hid ht; clear ht
  have c11 := hw1.blk.cell 11
  simp only [Giv.cells, List.getElem?_cons_zero, List.getElem?_cons_succ, hpc] at c11
  have hs1 := GS.start hw1; clear hw1
  have c15 := hs1.giv.blk.cell 15
  simp only [Giv.cells, List.getElem?_cons_zero, List.getElem?_cons_succ] at c15
  have f11 := hs1.giv.blk.free 11
  have f15 := hs1.giv.blk.free 15
  have HF := Lib.hid ((hs1.put (g' := { g with pc := 15 }) 11 (.int .i64 15) rfl rfl rfl rfl).put (g' := { g with pc := 15, answer := 0 }) 15 (.int .i64 0) rfl rfl rfl rfl); clear hs1
  go_wp2_with fail
  rw [Exit.noGoto_ret]
  go_ret2
  exact ⟨rfl, w1, HW.out, HF.out.to⟩
set_option maxRecDepth 100000 in
theorem gStep15 (hpc : g.pc = 15)  :
    Calls Tryz.prog 157 #[.pointer (some ⟨b, 0, none⟩), p] w fun e w' => e = .returned (.tuple #[.bool true, .int .i64 (g.over x).2]) ∧ ∃ w1, T w1 ∧ GivTo w1 b vf vo vl ((g.over x).1) w' := by
  have c11 := h.blk.cell 11
  simp only [Giv.cells, List.getElem?_cons_zero, List.getElem?_cons_succ, hpc] at c11
  have hE := fun w1 h => gEnd_any b vf vo vl g x w1 h
  generalize (g.over x).2 = ans at *
  have HT := Lib.hid hT; clear hT
  have HG := Lib.hid hg; clear hg h
  go_enter Tryz.func157, Tryz.ntmps157
  go_wp2_with fail
  go_step3
  go_wp2_with fail
  refine HT.out.mono ?_
  rintro e w1 ⟨rfl, ht⟩
  have hw1 := HG.out w1 ht
  have HW := Lib.hid ht; clear ht
  have c11 := hw1.blk.cell 11
  simp only [Giv.cells, List.getElem?_cons_zero, List.getElem?_cons_succ, hpc] at c11
  have hs1 := GS.start hw1; clear hw1
  have HE := Lib.hid (hE w1 hs1.giv)
  have HS1 := Lib.hid hs1; clear hs1 hE
  go_wp2_with fail
  refine HE.out.mono ?_
  rintro e w2 ⟨rfl, h2, hk2⟩
  have HF := Lib.hid (HS1.out.keepOne hk2 h2); clear h2 hk2
  go_wp2_with fail
  rw [Exit.noGoto_ret]
  go_ret2
  exact ⟨rfl, w1, HW.out, HF.out.to⟩
end
end Go.Proofs.YtaaffebnajjfhaaGreatDoor.T
namespace Go.Proofs.YtaaffebnajjfhaaGreatDoor.T
set_option linter.unusedVariables false
set_option linter.unusedSimpArgs false
set_option linter.unusedSectionVars false
open Go.RowKit
def SocAll (S : SocL) (n : Nat) (vs : Nat → Value) (k : Nat) : Prop := k = S.soc ∨ k = S.B.bus ∨ k = S.B.ram ∨ k = S.B.bufs ∨ k = S.X.box ∨ SocF S n vs k
structure Moved (w w' : World) (A A' B B' : Nat → Prop) : Prop where
  keep : Keep (fun k => A k ∨ B k) w w'
  oa : ∀ k, A' k → A k ∨ w.heap.size ≤ k
  ob : ∀ k, B' k → B k ∨ w.heap.size ≤ k
  dis : ∀ k, A' k → ¬ B' k
section
variable {w w' : World} {S : SocL} {n W most : Nat} {vs : Nat → Value} {m : Nat → Nat} {q : Nat → List (Nat × Nat)} {g : Gates.Gt}
theorem SocAt.keepAll (h : SocAt w S n W most vs m q g) {F : Nat → Prop} (hk : Keep F w w') (hF : ∀ k, SocAll S n vs k → ¬ F k) : SocAt w' S n W most vs m q g := by
  obtain ⟨k, hl, hlo⟩ := h.locks
  have hS : ∀ k, SocF S n vs k → ¬ F k := fun k hk => hF k (.inr (.inr (.inr (.inr (.inr hk)))))
  refine ⟨h.blk.keep hk (hF _ (.inl rfl)), ?_, ?_, ⟨k, Blk.keep (cs := k.cells) hl hk (hS _ (.inl rfl)), hlo⟩, Blk.keep (cs := g.cells) h.gate hk (hS _ (.inr (.inl rfl))), h.ok, h.cores, h.n1, h.W1, h.apart⟩
  · have h0 : 0 < n := h.n1
    exact h.bus.keep hk (hF _ (.inr (.inl rfl))) (hF _ (.inr (.inr (.inl rfl)))) (hS _ (.inr (.inr (.inl ⟨0, h0, .inl rfl⟩)))) (hF _ (.inr (.inr (.inr (.inl rfl)))))
      (fun i hi => hS _ (.inr (.inr (.inl ⟨i, hi, .inr (.inl rfl)⟩)))) (fun i hi k hk => hS _ (.inr (.inr (.inl ⟨i, hi, .inr (.inr hk)⟩))))
  · exact h.box.keep hk (hF _ (.inr (.inr (.inr (.inr (.inl rfl)))))) (hS _ (.inr (.inr (.inr (.inl rfl))))) (fun i hi => ⟨hS _ (.inr (.inr (.inr (.inr ⟨i, hi, .inl rfl⟩)))), hS _ (.inr (.inr (.inr (.inr ⟨i, hi, .inr rfl⟩))))⟩)
theorem SocAt.lt (h : SocAt w S n W most vs m q g) (k : Nat) (hk : SocAll S n vs k) : k < w.heap.size := by
  obtain ⟨kk, hl, hlo⟩ := h.locks
  rcases hk with rfl | rfl | rfl | rfl | rfl | rfl | rfl | ⟨c, hc, rfl | rfl | e⟩ | rfl | ⟨i, hi, rfl | rfl⟩
  · exact h.blk.lt
  · exact h.bus.bus.lt
  · exact h.bus.ram.blk.lt
  · exact h.bus.bufs.lt
  · exact h.box.box.lt
  · exact Blk.lt (cs := kk.cells) hl
  · exact Blk.lt (cs := g.cells) h.gate
  · exact h.bus.ram.row.lt
  · exact (h.bus.buf c hc).blk.lt
  · exact (h.bus.buf c hc).row.lt k e
  · obtain ⟨cs, hall, _⟩ := h.box.all
    exact hall.lt
  · obtain ⟨f, hh, hL⟩ := h.box.lane i hi
    exact hL.blk.lt
  · obtain ⟨f, hh, hL⟩ := h.box.lane i hi
    obtain ⟨xs, hx, _⟩ := hL.row
    exact hx.lt
theorem SocTo.all {m' : Nat → Nat} {q' : Nat → List (Nat × Nat)} {g' : Gates.Gt} (h : SocTo w S n W most vs m' q' g' w') : ∃ vs', SocAt w' S n W most vs' m' q' g' ∧ Keep (SocAll S n vs) w w' ∧ ∀ k, SocAll S n vs' k → SocAll S n vs k ∨ w.heap.size ≤ k := by
  obtain ⟨vs', h1, h2, h3⟩ := h
  refine ⟨vs', h1, h2.mono (fun k _ e => .inr (.inr (.inr (.inr (.inr e))))), fun k hk => ?_⟩
  rcases hk with e | e | e | e | e | e
  · exact .inl (.inl e)
  · exact .inl (.inr (.inl e))
  · exact .inl (.inr (.inr (.inl e)))
  · exact .inl (.inr (.inr (.inr (.inl e))))
  · exact .inl (.inr (.inr (.inr (.inr (.inl e)))))
  · exact (h3 k e).imp (fun e => .inr (.inr (.inr (.inr (.inr e))))) id
end
section
variable (S : SocL) (n W most : Nat) (vs : Nat → Value) (s : Sc) (p c : Nat) (hc : c < n) (hu : upAt s.g c) (b : Nat) (vf vo vl : Value) (g : Giv) (ok : g.Ok n W) (w : World)
include hc hu ok
set_option maxRecDepth 100000 in
theorem gStep_any (h1 : g.pc ≠ 0) (h : GivAt w b vf vo vl g) (hd : ∀ k, GivF b vf vo vl k → ¬ SocAll S n vs k) (hA : Ahead w) (hp : PortAt w S p c) (hs : SocAt w S n W most vs s.m s.q s.g) :
    Calls Tryz.prog 157 #[.pointer (some ⟨b, 0, none⟩), port p] w fun e w' => e = .returned (.tuple #[.bool (g.go (s.tch most c g.tch).2).2.1, .int .i64 (g.go (s.tch most c g.tch).2).2.2]) ∧ ∃ w1, TchTo w S n W most vs c s g.tch w1 ∧ GivTo w1 b vf vo vl (g.go (s.tch most c g.tch).2).1 w' := by
  have hd' : ∀ k, GivF b vf vo vl k → ¬ SocF S n vs k := fun k hk e => hd k hk (.inr (.inr (.inr (.inr (.inr e)))))
  have hT := gTouch_any S n W most vs s p c hc hu b vf vo vl g ok w (by omega) h hd' hA hp hs
  have hg : ∀ w', TchTo w S n W most vs c s g.tch w' → GivAt w' b vf vo vl g := fun w' hT => h.soc hd' hT
  generalize (s.tch most c g.tch).2 = x at *
  generalize hTT : TchTo w S n W most vs c s g.tch = T at *
  clear hTT
  have hpc := ok.pc
  have hm := ok.many
  have hr := ok.r64
  have hcase : g.pc = 1 ∨ g.pc = 2 ∨ g.pc = 3 ∨ g.pc = 4 ∨ g.pc = 5 ∨ g.pc = 6 ∨ g.pc = 7 ∨ g.pc = 8 ∨ g.pc = 9 ∨ g.pc = 10 ∨ g.pc = 11 ∨ g.pc = 12 ∨ g.pc = 13 ∨ g.pc = 14 ∨ g.pc = 15 := by omega
  rcases hcase with e | e | e | e | e | e | e | e | e | e | e | e | e | e | e
  · rw [show g.go x = (g.asked x, false, 0) by simp [Giv.go, e]]; exact gStep1 b vf vo vl g w _ x T h hT hg e
  · rw [show g.go x = ({ g with pc := 2 + 1 }, false, 0) by simp [Giv.go, e]]; exact gStep2 b vf vo vl g w _ x T h hT hg e
  · rw [show g.go x = ({ g with pc := 3 + 1 }, false, 0) by simp [Giv.go, e]]; exact gStep3 b vf vo vl g w _ x T h hT hg e
  · rw [show g.go x = (g.first, true, 8) by simp [Giv.go, e]]; exact gStep4 b vf vo vl g w _ x T h hT hg e ok.r1 ok.r64
  · by_cases hx : x = g.ep
    · rw [show g.go x = ({ g with linked := true, pc := 6 }, false, 0) by simp [Giv.go, e, hx]]; exact gStep5y b vf vo vl g w _ x T h hT hg e hx
    · rw [show g.go x = ({ g with pc := 0 }, true, 9) by simp [Giv.go, e, hx]]; exact gStep5n b vf vo vl g w _ x T h hT hg e hx
  · have hl0 : (x - (g.tail : Int)) % 65536 = ((((x - (g.tail : Int)) % 65536).toNat : Nat) : Int) := by omega
    generalize hl : ((x - (g.tail : Int)) % 65536).toNat = l at *
    by_cases hlt : g.out.length < l
    · rw [show g.go x = ({ g with left := l, pc := 15, answer := 10 }, false, 0) by simp [Giv.go, e, hl, hlt, Giv.corrupt]]; exact gStep6c b vf vo vl g w _ x T h hT hg e l hl0 hlt
    · by_cases h0 : 0 < l
      · rw [show g.go x = ({ g with left := l, pc := 7, i := 0 }, false, 0) by simp [Giv.go, e, hl, hlt, Giv.roomy, h0]]; exact gStep6l b vf vo vl g w _ x T h hT hg e l hl0 (by omega) h0
      · have hl00 : l = 0 := by omega
        subst hl00
        cases hfr : g.free with
        | nil => rw [show g.go x = ({ g with left := 0, pc := 15, i := 0, answer := 5 }, false, 0) by simp [Giv.go, e, hl, Giv.roomy, hfr]]; exact gStep6f b vf vo vl g w _ x T h hT hg e (by simpa using hl0) hfr
        | cons d r =>
          by_cases hll : g.load.length = 0
          · rw [show g.go x = ({ ({ g with left := 0 } : Giv) with pc := 9, i := 0, d := d, free := r, out := g.out ++ [d] }, false, 0) by simp [Giv.go, e, hl, Giv.roomy, hfr, Giv.words, hll]]
            exact gStep6s b vf vo vl g w _ x T h hT hg e (by simpa using hl0) { g with left := 0 } rfl d r hfr (by omega) hll
          · rw [show g.go x = ({ ({ g with left := 0 } : Giv) with pc := 8, i := 0, d := d, free := r, out := g.out ++ [d] }, false, 0) by simp [Giv.go, e, hl, Giv.roomy, hfr, Giv.words, hll]]
            exact gStep6w b vf vo vl g w _ x T h hT hg e (by simpa using hl0) { g with left := 0 } rfl d r hfr (by omega) (by omega)
  · cases hx : g.out.findIdx? (fun (y : Nat) => (y : Int) == x) with
    | none => rw [show g.go x = (g.corrupt, false, 0) by simp [Giv.go, e, hx]]; exact gStep7c b vf vo vl g w _ x T h hT hg e hx (by omega)
    | some k =>
      have hy : ∃ y : Nat, x = (y : Int) := by
        obtain ⟨hk, hp, _⟩ := List.findIdx?_eq_some_iff_getElem.1 hx
        exact ⟨g.out[k], (beq_iff_eq.1 hp).symm⟩
      obtain ⟨y, rfl⟩ := hy
      have hgo : g.go (y : Int) = ((g.back k y).roomy, false, 0) := by simp [Giv.go, e, hx]
      by_cases hl : 0 < (g.back k y).left
      · rw [hgo, show (g.back k y).roomy = { (g.back k y) with pc := 7, i := 0 } by simp [Giv.roomy, hl]]
        exact gStep7l b vf vo vl g w _ _ T h hT hg e y k rfl hx (ok.leftp e) ok.left (by omega) (g.back k y) rfl hl
      · have hl0 : (g.back k y).left = 0 := by omega
        cases hfr : (g.back k y).free with
        | nil =>
          have h1 := congrArg List.length hfr
          have e2 : (g.back k y).free.length = g.free.length + 1 := List.length_append
          rw [e2, List.length_nil] at h1
          omega
        | cons d r =>
          have hlo : (g.back k y).load = g.load := rfl
          by_cases hll : g.load.length = 0
          · rw [hgo, show (g.back k y).roomy = { (g.back k y) with pc := 9, i := 0, d := d, free := r, out := (g.back k y).out ++ [d] } by simp [Giv.roomy, hl0, hfr, Giv.words, hlo, hll]]
            exact gStep7s b vf vo vl g w _ _ T h hT hg e y k rfl hx (ok.leftp e) ok.left (by omega) (g.back k y) rfl hl0 d r hfr hll
          · rw [hgo, show (g.back k y).roomy = { (g.back k y) with pc := 8, i := 0, d := d, free := r, out := (g.back k y).out ++ [d] } by simp [Giv.roomy, hl0, hfr, Giv.words, hlo, hll]]
            exact gStep7w b vf vo vl g w _ _ T h hT hg e y k rfl hx (ok.leftp e) ok.left (by omega) (g.back k y) rfl hl0 d r hfr (by omega)
  · by_cases hll : g.load.length ≤ g.i + 1
    · rw [show g.go x = ({ g with i := g.i + 1, pc := 9 }, false, 0) by simp [Giv.go, e, Giv.words, hll]]; exact gStep8s b vf vo vl g w _ x T h hT hg e ok.i hll
    · rw [show g.go x = ({ g with i := g.i + 1, pc := 8 }, false, 0) by simp [Giv.go, e, Giv.words, hll]]; exact gStep8w b vf vo vl g w _ x T h hT hg e ok.i (by omega)
  · rw [show g.go x = ({ g with pc := 9 + 1 }, false, 0) by simp [Giv.go, e]]; exact gStep9 b vf vo vl g w _ x T h hT hg e
  · rw [show g.go x = ({ g with pc := 10 + 1 }, false, 0) by simp [Giv.go, e]]; exact gStep10 b vf vo vl g w _ x T h hT hg e
  · rw [show g.go x = ({ g with pc := 11 + 1 }, false, 0) by simp [Giv.go, e]]; exact gStep11 b vf vo vl g w _ x T h hT hg e
  · rw [show g.go x = ({ g with pc := 12 + 1 }, false, 0) by simp [Giv.go, e]]; exact gStep12 b vf vo vl g w _ x T h hT hg e
  · rw [show g.go x = ({ g with pc := 13 + 1 }, false, 0) by simp [Giv.go, e]]; exact gStep13 b vf vo vl g w _ x T h hT hg e
  · rw [show g.go x = ({ g with pc := 15, answer := 0 }, false, 0) by simp [Giv.go, e]]; exact gStep14 b vf vo vl g w _ x T h hT hg e
  · rw [show g.go x = ((g.over x).1, true, (g.over x).2) by simp [Giv.go, e]]; exact gStep15 b vf vo vl g w _ x T h hT hg e
theorem gDo_any (h1 : g.pc ≠ 0) (h : GivAt w b vf vo vl g) (hd : ∀ k, GivF b vf vo vl k → ¬ SocAll S n vs k) (hA : Ahead w) (hp : PortAt w S p c) (hs : SocAt w S n W most vs s.m s.q s.g) :
    Calls Tryz.prog 157 #[.pointer (some ⟨b, 0, none⟩), port p] w fun e w' => e = .returned (.tuple #[.bool (g.go (s.tch most c g.tch).2).2.1, .int .i64 (g.go (s.tch most c g.tch).2).2.2]) ∧
      ∃ vs' vf' vo', SocAt w' S n W most vs' (s.tch most c g.tch).1.m (s.tch most c g.tch).1.q (s.tch most c g.tch).1.g ∧ GivAt w' b vf' vo' vl (g.go (s.tch most c g.tch).2).1 ∧ Moved w w' (SocAll S n vs) (SocAll S n vs') (GivF b vf vo vl) (GivF b vf' vo' vl) := by
  refine (gStep_any S n W most vs s p c hc hu b vf vo vl g ok w h1 h hd hA hp hs).mono ?_
  rintro e w' ⟨he, w1, hT, vf', vo', hG⟩
  obtain ⟨vs', a1, a2, a3⟩ := hT.all
  have hgl : ∀ k, GivF b vf' vo' vl k → ¬ SocAll S n vs' k := by
    intro k hk e
    have hlt := a1.lt k e
    rcases hG.own k hk with h2 | h2
    · rcases a3 k e with h3 | h3
      · exact hd k h2 h3
      · have := h.lt k h2; omega
    · omega
  have hg0 : ∀ k, SocAll S n vs' k → ¬ GivF b vf vo vl k := by
    intro k hk e
    rcases a3 k hk with h3 | h3
    · exact hd k e h3
    · have := h.lt k e; omega
  refine ⟨he, vs', vf', vo', a1.keepAll hG.keep hg0, hG.giv, ⟨(a2.mono (fun k _ e => .inl e)).trans hG.keep (fun k _ e => .inr e), a3, fun k hk => ?_, fun k hk e => hgl k e hk⟩⟩
  rcases hG.own k hk with h2 | h2
  · exact .inl h2
  · exact .inr (Nat.le_trans a2.size h2)
end
end Go.Proofs.YtaaffebnajjfhaaGreatDoor.T
