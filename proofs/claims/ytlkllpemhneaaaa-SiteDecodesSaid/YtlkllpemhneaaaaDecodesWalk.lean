/- SiteDecodes: the walk of the law's own function: where the program's and the reference's answers are the same, it comes to true, and what was there in memory is as it was. -/
import Derived.Test.YtlkllpemhneaaaaPureSiteDecodes
import Derived.WalkKit
import Derived.Deep.RegionHeld3
import Derived.Deep.DrawnRows
import Derived.Deep.DeepCutAuto
import Derived.Lib.Hide
import Derived.KernelRfl
namespace Go.Proofs.Ytlkllpemhneaaaa.DecodesWalk
set_option linter.unusedVariables false
set_option linter.unusedSimpArgs false
open Go.RowKit Go.Proofs.Ytlkllpemhneaaaa.PSiteDecodes Go.Proofs.YtlkllpemhneaaaaW.PrintWords
attribute [local go_sem ↓] Go.wp_at_zero Go.wp_at_succ

/-- What the last statement's loads read stays, behind a call that keeps what was there. -/
theorem keep9 {w4 : World} (B x y z : Nat) (hx : x < B) (hy : y < B) (hz : z < B) (hB : B ≤ w4.heap.size) {c w l k i r : Int} {u v : World}
    (h : u.cell? ⟨x, 0, none⟩ = some (.int .i64 c) ∧ u.cell? ⟨x, 1, none⟩ = some (.int .i64 w) ∧ u.cell? ⟨x, 2, none⟩ = some (.int .i64 l) ∧
      u.cell? ⟨y, 0, none⟩ = some (.int .i64 k) ∧ u.cell? ⟨y, 1, none⟩ = some (.int .i64 i) ∧ u.cell? ⟨y, 2, none⟩ = some (.int .i64 r) ∧
      u.cell? ⟨z, 0, none⟩ = some (.int .i64 k) ∧ u.cell? ⟨z, 1, none⟩ = some (.int .i64 i) ∧ u.cell? ⟨z, 2, none⟩ = some (.int .i64 r) ∧ Below B w4 u)
    (hb : Below u.heap.size u v) :
    v.cell? ⟨x, 0, none⟩ = some (.int .i64 c) ∧ v.cell? ⟨x, 1, none⟩ = some (.int .i64 w) ∧ v.cell? ⟨x, 2, none⟩ = some (.int .i64 l) ∧
      v.cell? ⟨y, 0, none⟩ = some (.int .i64 k) ∧ v.cell? ⟨y, 1, none⟩ = some (.int .i64 i) ∧ v.cell? ⟨y, 2, none⟩ = some (.int .i64 r) ∧
      v.cell? ⟨z, 0, none⟩ = some (.int .i64 k) ∧ v.cell? ⟨z, 1, none⟩ = some (.int .i64 i) ∧ v.cell? ⟨z, 2, none⟩ = some (.int .i64 r) ∧ Below B w4 v := by
  obtain ⟨a0, a1, a2, b0, b1, b2, d0, d1, d2, q⟩ := h
  have hs := q.size
  have e : ∀ n o, n < B → v.cell? ⟨n, o, none⟩ = u.cell? ⟨n, o, none⟩ := fun n o hn => hb.cell (p := ⟨n, o, none⟩) (by show n < u.heap.size; omega)
  refine ⟨?_, ?_, ?_, ?_, ?_, ?_, ?_, ?_, ?_, ?_⟩
  · rw [e _ _ hx]; exact a0
  · rw [e _ _ hx]; exact a1
  · rw [e _ _ hx]; exact a2
  · rw [e _ _ hy]; exact b0
  · rw [e _ _ hy]; exact b1
  · rw [e _ _ hy]; exact b2
  · rw [e _ _ hz]; exact d0
  · rw [e _ _ hz]; exact d1
  · rw [e _ _ hz]; exact d2
  · exact q.trans (hb.mono (by omega))

set_option maxHeartbeats 1000000 in
set_option maxRecDepth 100000 in
theorem walk (c w l a k i r n : Int) (b t : Bool) (W : World)
    (h1 : site_Decode.f c w l a = some (k, i, r, b)) (h2 : switchyardref08_Decode.f 100 c w l a = some (k, i, r, b))
    (h3 : site_Right.f c w l = some t) (h4 : switchyardref08_Right.f c w l = some t)
    (h5 : site_Count.f c w l = some n) (h6 : switchyardref08_Count.f c w l = some n) :
    Calls Try.prog 5 #[.agg #[.int .i64 c, .int .i64 w, .int .i64 l], .int .i64 a] W fun e w' => e = .returned (.bool true) ∧ Below W.heap.size W w' := by
  have H1 := Lib.hid h1; clear h1
  have H2 := Lib.hid h2; clear h2
  have H3 := Lib.hid h3; clear h3
  have H4 := Lib.hid h4; clear h4
  have H5 := Lib.hid h5; clear h5
  have H6 := Lib.hid h6; clear h6
  go_enter Try.func5, Try.ntmps5
  go_wp2_with fail
  refine (site_Decode.calls c w l a k i r b _ H1.out).mono ?_
  rintro e w1 ⟨rfl, hb1⟩
  have p0w1 : w1.cell? ⟨W.heap.size, 0, none⟩ = some (.int .i64 c) := by
    rw [hb1.cell (p := ⟨W.heap.size, 0, none⟩) (by simp; try omega)]; go_simp
  have p1w1 : w1.cell? ⟨W.heap.size, 1, none⟩ = some (.int .i64 w) := by
    rw [hb1.cell (p := ⟨W.heap.size, 1, none⟩) (by simp; try omega)]; go_simp
  have p2w1 : w1.cell? ⟨W.heap.size, 2, none⟩ = some (.int .i64 l) := by
    rw [hb1.cell (p := ⟨W.heap.size, 2, none⟩) (by simp; try omega)]; go_simp
  have z1 : W.heap.size < w1.heap.size := by have := hb1.size; simp at this; omega
  go_wp2_with fail
  refine (switchyardlaw08_plan.calls c w l c w l _ rfl).mono ?_
  rintro e w2 ⟨rfl, hb2⟩
  have p0w2 : w2.cell? ⟨W.heap.size, 0, none⟩ = some (.int .i64 c) := by
    rw [hb2.cell (p := ⟨W.heap.size, 0, none⟩) (by simp; try omega)]; go_simp
  have p1w2 : w2.cell? ⟨W.heap.size, 1, none⟩ = some (.int .i64 w) := by
    rw [hb2.cell (p := ⟨W.heap.size, 1, none⟩) (by simp; try omega)]; go_simp
  have p2w2 : w2.cell? ⟨W.heap.size, 2, none⟩ = some (.int .i64 l) := by
    rw [hb2.cell (p := ⟨W.heap.size, 2, none⟩) (by simp; try omega)]; go_simp
  have k0w2 : w2.cell? ⟨w1.heap.size, 0, none⟩ = some (.int .i64 k) := by
    rw [hb2.cell (p := ⟨w1.heap.size, 0, none⟩) (by simp; try omega)]; go_simp
  have k1w2 : w2.cell? ⟨w1.heap.size, 1, none⟩ = some (.int .i64 i) := by
    rw [hb2.cell (p := ⟨w1.heap.size, 1, none⟩) (by simp; try omega)]; go_simp
  have k2w2 : w2.cell? ⟨w1.heap.size, 2, none⟩ = some (.int .i64 r) := by
    rw [hb2.cell (p := ⟨w1.heap.size, 2, none⟩) (by simp; try omega)]; go_simp
  have z2 : w1.heap.size < w2.heap.size := by have := hb2.size; simp at this; omega
  have z2' : W.heap.size < w2.heap.size := by omega
  go_wp2_with fail
  refine (switchyardref08_Decode.calls 100 c w l a k i r b _ H2.out).mono ?_
  rintro e w3 ⟨rfl, hb3⟩
  have p0w3 : w3.cell? ⟨W.heap.size, 0, none⟩ = some (.int .i64 c) := by
    rw [hb3.cell (p := ⟨W.heap.size, 0, none⟩) (by simp; try omega)]; go_simp
  have p1w3 : w3.cell? ⟨W.heap.size, 1, none⟩ = some (.int .i64 w) := by
    rw [hb3.cell (p := ⟨W.heap.size, 1, none⟩) (by simp; try omega)]; go_simp
  have p2w3 : w3.cell? ⟨W.heap.size, 2, none⟩ = some (.int .i64 l) := by
    rw [hb3.cell (p := ⟨W.heap.size, 2, none⟩) (by simp; try omega)]; go_simp
  have k0w3 : w3.cell? ⟨w1.heap.size, 0, none⟩ = some (.int .i64 k) := by
    rw [hb3.cell (p := ⟨w1.heap.size, 0, none⟩) (by simp; try omega)]; go_simp
  have k1w3 : w3.cell? ⟨w1.heap.size, 1, none⟩ = some (.int .i64 i) := by
    rw [hb3.cell (p := ⟨w1.heap.size, 1, none⟩) (by simp; try omega)]; go_simp
  have k2w3 : w3.cell? ⟨w1.heap.size, 2, none⟩ = some (.int .i64 r) := by
    rw [hb3.cell (p := ⟨w1.heap.size, 2, none⟩) (by simp; try omega)]; go_simp
  have z3 : w1.heap.size < w3.heap.size := by have := hb3.size; omega
  have z3' : W.heap.size < w3.heap.size := by omega
  go_wp2_with fail
  have n0 : (w3.alloc (.cells #[.int .i64 k, .int .i64 i, .int .i64 r] 31)).cell? ⟨w3.heap.size, 0, none⟩ = some (.int .i64 k) := by go_simp
  have n1 : (w3.alloc (.cells #[.int .i64 k, .int .i64 i, .int .i64 r] 31)).cell? ⟨w3.heap.size, 1, none⟩ = some (.int .i64 i) := by go_simp
  have n2 : (w3.alloc (.cells #[.int .i64 k, .int .i64 i, .int .i64 r] 31)).cell? ⟨w3.heap.size, 2, none⟩ = some (.int .i64 r) := by go_simp
  have p0 : (w3.alloc (.cells #[.int .i64 k, .int .i64 i, .int .i64 r] 31)).cell? ⟨W.heap.size, 0, none⟩ = some (.int .i64 c) := by go_simp
  have p1 : (w3.alloc (.cells #[.int .i64 k, .int .i64 i, .int .i64 r] 31)).cell? ⟨W.heap.size, 1, none⟩ = some (.int .i64 w) := by go_simp
  have p2 : (w3.alloc (.cells #[.int .i64 k, .int .i64 i, .int .i64 r] 31)).cell? ⟨W.heap.size, 2, none⟩ = some (.int .i64 l) := by go_simp
  have k0 : (w3.alloc (.cells #[.int .i64 k, .int .i64 i, .int .i64 r] 31)).cell? ⟨w1.heap.size, 0, none⟩ = some (.int .i64 k) := by go_simp
  have k1 : (w3.alloc (.cells #[.int .i64 k, .int .i64 i, .int .i64 r] 31)).cell? ⟨w1.heap.size, 1, none⟩ = some (.int .i64 i) := by go_simp
  have k2 : (w3.alloc (.cells #[.int .i64 k, .int .i64 i, .int .i64 r] 31)).cell? ⟨w1.heap.size, 2, none⟩ = some (.int .i64 r) := by go_simp
  have hb4 : Below W.heap.size W (w3.alloc (.cells #[.int .i64 k, .int .i64 i, .int .i64 r] 31)) :=
    ((((Below.refl W.heap.size W).alloc (Nat.le_refl _) _).trans (hb1.mono (by simp))).alloc (by omega) _).trans (hb2.mono (by simp; omega)) |>.trans (hb3.mono (by omega)) |>.alloc (by omega) _
  have z4 : w3.heap.size < (w3.alloc (.cells #[.int .i64 k, .int .i64 i, .int .i64 r] 31)).heap.size := by simp
  have q1 := hb2.size
  have q2 := hb3.size
  simp at q1
  have q3 : w2.heap.size ≤ w3.heap.size := q2
  clear q2 p0w1 p1w1 p2w1 p0w2 p1w2 p2w2 k0w2 k1w2 k2w2 p0w3 p1w3 p2w3 k0w3 k1w3 k2w3 hb1 hb2 hb3
  generalize w3.alloc (.cells #[.int .i64 k, .int .i64 i, .int .i64 r] 31) = w4 at *
  have hw : w1.heap.size < w3.heap.size := by omega
  have hB0 : Below (w3.heap.size + 1) w4 w4 := Below.refl _ _
  generalize hg1 : w1.heap.size = y at *
  generalize hg3 : w3.heap.size = z at *
  generalize hgW : W.heap.size = x at *
  have G := Lib.hid (And.intro hg1 (And.intro hg3 hgW))
  clear hg1 hg3 hgW z1 z2 z2' q1 q3
  go_region_held3 (fun u => u.cell? ⟨x, 0, none⟩ = some (.int .i64 c) ∧ u.cell? ⟨x, 1, none⟩ = some (.int .i64 w) ∧ u.cell? ⟨x, 2, none⟩ = some (.int .i64 l) ∧
      u.cell? ⟨y, 0, none⟩ = some (.int .i64 k) ∧ u.cell? ⟨y, 1, none⟩ = some (.int .i64 i) ∧ u.cell? ⟨y, 2, none⟩ = some (.int .i64 r) ∧
      u.cell? ⟨z, 0, none⟩ = some (.int .i64 k) ∧ u.cell? ⟨z, 1, none⟩ = some (.int .i64 i) ∧ u.cell? ⟨z, 2, none⟩ = some (.int .i64 r) ∧ Below (z + 1) w4 u)
    (first | exact ⟨p0, p1, p2, k0, k1, k2, n0, n1, n2, hB0⟩ | exact ⟨p0, p1, p2, k0, k1, k2, n0, n1, n2, hB0.drew⟩ | exact keep9 (z + 1) x y z (by omega) (by omega) (by omega) (by omega) (by assumption) (by assumption))
    (first
      | (go_at_call 12; refine (site_Right.calls c w l t _ H3.out).mono ?_; rintro e w' ⟨rfl, hb⟩)
      | (go_at_call 8; refine (switchyardlaw08_plan.calls c w l c w l _ rfl).mono ?_; rintro e w' ⟨rfl, hb⟩)
      | (go_at_call 13; refine (switchyardref08_Right.calls c w l t _ H4.out).mono ?_; rintro e w' ⟨rfl, hb⟩)
      | (go_at_call 14; refine (site_Count.calls c w l n _ H5.out).mono ?_; rintro e w' ⟨rfl, hb⟩)
      | (go_at_call 15; refine (switchyardref08_Count.calls c w l n _ H6.out).mono ?_; rintro e w' ⟨rfl, hb⟩)
      | (go_at_call 9; refine (switchyardlaw08_alive.calls true _ PureDecodes.alive_true).mono ?_; rintro e w' ⟨rfl, hb⟩))
  rename_i hH
  obtain ⟨-, -, -, -, -, -, -, -, -, hH⟩ := hH
  have hx := G.out.2.2
  have hT : Below W.heap.size W w' := by rw [hx]; exact hb4.trans (hH.mono (by omega))
  clear hb hH hb4 hB0 hx
  go_wp2_with fail
  go_ret
  exact ⟨rfl, hT⟩

end Go.Proofs.Ytlkllpemhneaaaa.DecodesWalk
