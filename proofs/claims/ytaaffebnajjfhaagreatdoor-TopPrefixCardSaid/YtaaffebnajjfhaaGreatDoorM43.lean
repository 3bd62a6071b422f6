/- Texts of this proof, merged: New5. -/
import Derived.Test.YtaaffebnajjfhaaGreatDoorM42
namespace Go.Proofs.YtaaffebnajjfhaaGreatDoor.T
set_option linter.unusedVariables false
set_option linter.unusedSimpArgs false
open Go.RowKit
structure SocNew (w w' : World) (S : SocL) (n W most : Nat) : Prop where
  at_ : SocAt w' S n W most (fun _ => nilS) (fun _ => 0) (fun _ => []) (Gates.newGt n)
  b : Below w.heap.size w w'
  ge : ∀ k, SocAll S n (fun _ => nilS) k → w.heap.size ≤ k
set_option maxHeartbeats 2000000 in
set_option maxRecDepth 100000 in
theorem socNew_any (n W most : Nat) (hn : 1 ≤ n) (hn8 : n ≤ 8) (hW : 1 ≤ W) (hW2 : W ≤ 65536) (h1 : 1 ≤ most) (h2 : most ≤ 16) (w : World) :
    Calls Tryz.prog 18 #[.agg #[.int .i64 n, .int .i64 W, .int .i64 1], .int .i64 most] w fun e w' => ∃ S : SocL, e = .returned (.tuple #[.pointer (some ⟨S.soc, 0, none⟩), .int .i64 0]) ∧ SocNew w w' S n W most := by
  obtain ⟨w1, hw1⟩ : ∃ w1, w1 = w.alloc (.cells #[.int .i64 (n : Int), .int .i64 (W : Int), .int .i64 1] 62) := ⟨_, rfl⟩
  have hk : Blk w1 w.heap.size 62 [.int .i64 (n : Int), .int .i64 (W : Int), .int .i64 1] := by rw [hw1]; exact Blk.new _ _ _
  have hb : Below w.heap.size w w1 := by rw [hw1]; exact (Below.refl _ _).alloc (Nat.le_refl _) _
  have c0 := hk.cell 0
  have c1 := hk.cell 1
  have c2 := hk.cell 2
  simp only [List.getElem?_cons_zero, List.getElem?_cons_succ] at c0 c1 c2
  have HW := Lib.hid hw1
  have HK := Lib.hid (And.intro hk hb)
  have HB := Lib.hid (busNew_any n W most hn hn8 hW hW2 h1 h2 w1)
  have HS := Lib.hid (fun u => siteRight_yes n W hn hn8 hW hW2 u)
  have HX := Lib.hid (fun u => boxNew_any n hn hn8 u)
  have HL := Lib.hid (fun u => Banks.new_yes (n : Int) 1 u ⟨by omega, by omega, by omega, by omega⟩)
  have HG := Lib.hid (fun u => Gates.new_yes (n : Int) u ⟨by omega, by omega⟩)
  have HN := Lib.hid (And.intro hn (And.intro hn8 (And.intro hW hW2)))
  clear hw1 hk hb hn hn8 hW hW2
  go_enter Tryz.func18, Tryz.ntmps18
  go_wp2_with fail
  rw [← HW.out]
  go_wp2_with fail
  refine HB.out.mono ?_
  rintro e w2 ⟨L, rfl, hbus⟩
  have hk2 := HK.out.1.keep (Keep.ofFresh hbus.b (B := 0) (F := fun _ => False)) (fun q => q)
  have d0 := hk2.cell 0
  have d1 := hk2.cell 1
  have d2 := hk2.cell 2
  simp only [List.getElem?_cons_zero, List.getElem?_cons_succ] at d0 d1 d2
  have HBU := Lib.hid (And.intro hbus hk2)
  clear hbus hk2 c0 c1 c2
  go_wp2_with fail
  refine (HS.out _).mono ?_
  rintro e w3 ⟨rfl, hb3⟩
  have hk3 := HBU.out.2.keep (Keep.ofFresh hb3 (B := 0) (F := fun _ => False)) (fun q => q)
  have HB3 := Lib.hid (And.intro hb3 hk3)
  have hS : w3.cell? ⟨w.heap.size, 0, none⟩ = some (.int .i64 (n : Int)) ∧ w3.cell? ⟨w.heap.size, 1, none⟩ = some (.int .i64 (W : Int)) ∧ w3.cell? ⟨w.heap.size, 2, none⟩ = some (.int .i64 1) := ⟨hk3.cell 0, hk3.cell 1, hk3.cell 2⟩
  have hX : ∀ u, Below w3.heap.size w3 u → Calls Tryz.prog 40 #[.int .i64 (n : Int)] u fun e w4 => ∃ X : BoxL, e = .returned (.pointer (some ⟨X.box, 0, none⟩)) ∧ (BoxNew u w4 X n ∧ Below w3.heap.size w3 u ∧ Below w3.heap.size w3 w4) ∧ w4.cell? ⟨w.heap.size, 0, none⟩ = some (.int .i64 (n : Int)) ∧ w4.cell? ⟨w.heap.size, 1, none⟩ = some (.int .i64 (W : Int)) ∧ w4.cell? ⟨w.heap.size, 2, none⟩ = some (.int .i64 1) := by
    intro u hu
    refine (HX.out u).mono ?_
    rintro e w4 ⟨X, rfl, hN⟩
    have hb34 := hu.trans (hN.b.mono hu.size)
    have hk4 := hk3.keep (Keep.ofFresh hb34 (B := 0) (F := fun _ => False)) (fun q => q)
    exact ⟨X, rfl, ⟨hN, hu, hb34⟩, hk4.cell 0, hk4.cell 1, hk4.cell 2⟩
  have hL : ∀ u, Below w3.heap.size w3 u → Calls Tryz.prog 41 #[.int .i64 (n : Int), .int .i64 1] u fun e w4 => ∃ l : Nat, e = .returned (.pointer (some ⟨l, 0, none⟩)) ∧ (Banks.At w4 l (Banks.newBk n 1) ∧ w3.heap.size ≤ l ∧ Below u.heap.size u w4 ∧ Below w3.heap.size w3 w4) ∧ w4.cell? ⟨w.heap.size, 0, none⟩ = some (.int .i64 (n : Int)) ∧ w4.cell? ⟨w.heap.size, 1, none⟩ = some (.int .i64 (W : Int)) ∧ w4.cell? ⟨w.heap.size, 2, none⟩ = some (.int .i64 1) := by
    intro u hu
    refine (HL.out u).mono ?_
    rintro e w4 ⟨rfl, h3, h4, h5⟩
    have hb34 := hu.trans (h4.mono hu.size)
    have hk4 := hk3.keep (Keep.ofFresh hb34 (B := 0) (F := fun _ => False)) (fun q => q)
    exact ⟨_, rfl, ⟨h3, hu.size, h4, hb34⟩, hk4.cell 0, hk4.cell 1, hk4.cell 2⟩
  have hG : ∀ u, Below w3.heap.size w3 u → Calls Tryz.prog 42 #[.int .i64 (n : Int)] u fun e w4 => ∃ l : Nat, e = .returned (.pointer (some ⟨l, 0, none⟩)) ∧ (Gates.At w4 l (Gates.newGt n) ∧ w3.heap.size ≤ l ∧ Below u.heap.size u w4 ∧ Below w3.heap.size w3 w4) ∧ w4.cell? ⟨w.heap.size, 0, none⟩ = some (.int .i64 (n : Int)) ∧ w4.cell? ⟨w.heap.size, 1, none⟩ = some (.int .i64 (W : Int)) ∧ w4.cell? ⟨w.heap.size, 2, none⟩ = some (.int .i64 1) := by
    intro u hu
    refine (HG.out u).mono ?_
    rintro e w4 ⟨rfl, h3, h4, h5⟩
    have hb34 := hu.trans (h4.mono hu.size)
    have hk4 := hk3.keep (Keep.ofFresh hb34 (B := 0) (F := fun _ => False)) (fun q => q)
    exact ⟨_, rfl, ⟨h3, hu.size, h4, hb34⟩, hk4.cell 0, hk4.cell 1, hk4.cell 2⟩
  have HXX := Lib.hid hX
  have HLL := Lib.hid hL
  have HGG := Lib.hid hG
  clear hX hL hG hk3 hb3 d0 d1 d2
  go_upto_region 4 with fail
  go_region_held3 (fun u => u.cell? ⟨w.heap.size, 0, none⟩ = some (.int .i64 (n : Int)) ∧ u.cell? ⟨w.heap.size, 1, none⟩ = some (.int .i64 (W : Int)) ∧ u.cell? ⟨w.heap.size, 2, none⟩ = some (.int .i64 1)) (first | exact hS | assumption | exact ⟨cell_alloc hS6.1, cell_alloc hS6.2.1, cell_alloc hS6.2.2⟩)
    (first | (go_at_call 40; refine (HXX.out _ (by first | exact Below.refl _ _ | exact (Below.refl _ _).drew)).mono ?_; rintro e w4 ⟨X, rfl, hN4, hS4⟩; have hN4 := Lib.hid hN4) | (go_at_call 41; refine (HLL.out _ hN4.out.2.2).mono ?_; rintro e w5 ⟨l5, rfl, hN5, hS5⟩; have hN5 := Lib.hid hN5) | (go_at_call 42; refine (HGG.out _ hN5.out.2.2.2).mono ?_; rintro e w6 ⟨l6, rfl, hN6, hS6⟩; have hN6 := Lib.hid hN6))
  have hlt : ∀ {a b : World}, Below a.heap.size a b → Keep (fun _ => False) a b := fun hb => Keep.ofFresh hb (B := 0)
  have h67 : Below w6.heap.size w6 (w6.alloc (.cells [.int .i64 (n : Int), .int .i64 (W : Int), .int .i64 1, .pointer (some ⟨L.bus, 0, none⟩), .pointer (some ⟨X.box, 0, none⟩), .pointer (some ⟨l5, 0, none⟩), .pointer (some ⟨l6, 0, none⟩)].toArray 103)) := (Below.refl _ _).alloc (Nat.le_refl _) _
  have hsoc := Blk.new w6 103 [.int .i64 (n : Int), .int .i64 (W : Int), .int .i64 1, .pointer (some ⟨L.bus, 0, none⟩), .pointer (some ⟨X.box, 0, none⟩), .pointer (some ⟨l5, 0, none⟩), .pointer (some ⟨l6, 0, none⟩)]
  have h36 : Below w3.heap.size w3 w6 := hN6.out.2.2.2
  have h56 : Below w5.heap.size w5 w6 := hN6.out.2.2.1
  have h45 : Below w4.heap.size w4 w5 := hN5.out.2.2.1
  have h57 := h56.trans (h67.mono h56.size)
  have h47 := h45.trans (h57.mono h45.size)
  have h23 : Below w2.heap.size w2 w3 := HB3.out.1
  have h37 := h36.trans (h67.mono h36.size)
  have h27 := h23.trans (h37.mono h23.size)
  have h12 : Below w1.heap.size w1 w2 := HBU.out.1.b
  have h17 := h12.trans (h27.mono h12.size)
  have h01 := HK.out.2
  have h07 := h01.trans (h17.mono h01.size)
  have hbus := HBU.out.1.at_.fresh h27
  have hbox := hN4.out.1.at_.fresh h47
  have hloc : Banks.At _ l5 (Banks.newBk n 1) := Blk.keep (cs := (Banks.newBk n 1).cells) hN5.out.1 (hlt h57) (fun q => q)
  have hgat : Gates.At _ l6 (Gates.newGt n) := Blk.keep (cs := (Gates.newGt n).cells) hN6.out.1 (hlt h67) (fun q => q)
  have s01 := h01.size
  have s12 := h12.size
  have s23 := h23.size
  have s36 := h36.size
  have s34 := hN4.out.2.1.size
  have gl5 : w3.heap.size ≤ l5 := hN5.out.2.1
  have gl6 : w3.heap.size ≤ l6 := hN6.out.2.1
  have gB := HBU.out.1.ge
  have gR := HBU.out.1.row
  have gX := hN4.out.1.ge
  have rowlt : L.row < w2.heap.size := HBU.out.1.at_.ram.row.lt
  have hSA : SocAt _ ⟨w6.heap.size, l5, l6, L, X⟩ n W most (fun _ => nilS) (fun _ => 0) (fun _ => []) (Gates.newGt n) :=
    ⟨hsoc, hbus, hbox, ⟨_, hloc, Banks.newBk_ok ⟨by have := HN.out.1; omega, by have := HN.out.2.1; omega, by omega, by omega⟩, rfl⟩, hgat, Gates.newGt_ok ⟨by have := HN.out.1; omega, by have := HN.out.2.1; omega⟩, rfl, HN.out.1, HN.out.2.2.1, fun i hi e => by have e : X.room i = L.row := e; have := (gX.2.2 i hi).2; omega⟩
  have hGE : ∀ k, SocAll ⟨w6.heap.size, l5, l6, L, X⟩ n (fun _ => nilS) k → w.heap.size ≤ k := by
    rintro k (q | q | q | q | q | q | q | ⟨c, hc, q | q | q⟩ | q | ⟨c, hc, q | q⟩)
    · have q : k = w6.heap.size := q; omega
    · have q : k = L.bus := q; have := gB.1; omega
    · have q : k = L.ram := q; have := gB.2.1; omega
    · have q : k = L.bufs := q; have := gB.2.2.1; omega
    · have q : k = X.box := q; have := gX.1; omega
    · have q : k = l5 := q; omega
    · have q : k = l6 := q; omega
    · have q : k = L.row := q; omega
    · have q : k = L.buf c := q; have := gB.2.2.2 c hc; omega
    · simp [nilS, Value.ownBlock] at q
    · have q : k = X.all := q; have := gX.2.1; omega
    · have q : k = X.lane c := q; have := (gX.2.2 c hc).1; omega
    · have q : k = X.room c := q; have := (gX.2.2 c hc).2; omega
  have HFIN := Lib.hid (⟨hSA, h07, hGE⟩ : SocNew w _ ⟨w6.heap.size, l5, l6, L, X⟩ n W most)
  clear hSA h07 hGE hbus hbox hloc hgat hsoc h67 h57 h47 h37 h27 h17 gX gB
  go_wp2_with fail
  go_ret2
  exact ⟨⟨w6.heap.size, l5, l6, L, X⟩, rfl, HFIN.out⟩
end Go.Proofs.YtaaffebnajjfhaaGreatDoor.T
