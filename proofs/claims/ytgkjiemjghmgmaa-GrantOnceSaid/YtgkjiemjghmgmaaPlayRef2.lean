/- Grant: the contracts of the reference's Give and Clear. -/
import Derived.Test.YtgkjiemjghmgmaaPlayRef
namespace Go.Proofs.Ytgkjiemjghmgmaa.Grants
set_option linter.unusedVariables false
set_option linter.unusedSimpArgs false
open Go.RowKit Go.Proofs.Ytgkjiemjghmgmaa.PGrantPlays Go.Proofs.YtgkjiemjghmgmaaW.PrintWords

/-- What holds while a handle is reckoned. -/
structure GI (w : World) (z B : Nat) (g : Int) (k : Tb) (A : Option Addr) (cap : Nat) (u : World) : Prop where
  box : u.heap[z]? = some (.cells #[.int .i64 g, .bool true] 56 (0, 0))
  sg : Sg u B (.slice A (absT k).length cap) (absT k)
  bel : Below w.heap.size w u
  B0 : B ≤ w.heap.size
abbrev GIS (w : World) (z B : Nat) (g : Int) (k : Tb) (A : Option Addr) (cap : Nat) (u : World) : Prop :=
  u.cell? ⟨z, 0, none⟩ = some (.int .i64 g) ∧ u.cell? ⟨z, 1, none⟩ = some (.bool true) ∧ GI w z B g k A cap u
theorem GI.keep {w : World} {z B : Nat} {g : Int} {k : Tb} {A : Option Addr} {cap : Nat} {u u' : World} (h : GI w z B g k A cap u) (hb : Below u.heap.size u u') : GI w z B g k A cap u' :=
  ⟨(hb.block z (lt_of_block h.box)).trans h.box, h.sg.below hb, h.bel.trans (hb.mono h.bel.size), h.B0⟩
theorem GI.all {w : World} {z B : Nat} {g : Int} {k : Tb} {A : Option Addr} {cap : Nat} {u : World} (h : GI w z B g k A cap u) : GIS w z B g k A cap u :=
  ⟨(blk_cell h.box 0).trans rfl, (blk_cell h.box 1).trans rfl, h⟩
theorem GI.next {w : World} {z B : Nat} {g : Int} {k : Tb} {A : Option Addr} {cap : Nat} {u u' : World} (h : GIS w z B g k A cap u) (hb : Below u.heap.size u u') : GIS w z B g k A cap u' := (h.2.2.keep hb).all
theorem give_with {w : World} {z B : Nat} {g : Int} {k k' : Tb} {A : Option Addr} {cap : Nat} {u : World} (h : GIS w z B g k A cap u) (ok : k.Ok) (i : Int) (h0 : 0 ≤ i) (h1 : i < k.n) (hset : (absT k).set i.toNat ⟨g, true⟩ = absT k') :
    Calls Try.prog 28 #[.slice A (absT k).length cap, .int .i64 i, .agg #[.int .i64 g, .bool true]] u fun e w' => ∃ A' cap', e = .returned (.slice A' (absT k').length cap') ∧ Sg w' B (.slice A' (absT k').length cap') (absT k') ∧ Below u.heap.size u w' :=
  rwith_any k k' ok i g true h0 h1 hset A cap B u h.2.2.sg (Nat.le_trans h.2.2.B0 h.2.2.bel.size)

set_option maxHeartbeats 1000000 in
theorem rgive_any (k : Tb) (ok : k.Ok) (i : Int) (A : Option Addr) (cap B : Nat) (w : World) (h : Sg w B (.slice A (absT k).length cap) (absT k)) (hB : B ≤ w.heap.size) :
    Calls Try.prog 22 #[.slice A (absT k).length cap, .int .i64 i] w fun e w' => ∃ A' cap', e = .returned (.tuple #[.slice A' (absT (giveR k i).1).length cap', .int .i64 (giveR k i).2.1, .bool (giveR k i).2.2]) ∧ Sg w' B (.slice A' (absT (giveR k i).1).length cap') (absT (giveR k i).1) ∧ Below w.heap.size w w' := by
  have hn1 := ok.n1
  have HLEN := Lib.hid (show ((absT k).length : Int) = k.n by rw [abs_len]; have := ok.n0; omega)
  by_cases hi0 : i < 0
  · have e1 : giveR k i = (k, 0, false) := by unfold giveR; rw [if_neg (by omega)]
    rw [e1]
    clear e1
    go_enter Try.func22, Try.ntmps22
    go_wp2_with fail
    go_ret3
    exact ⟨A, cap, rfl, h, Below.refl _ _⟩
  · by_cases hi1 : k.n ≤ i
    · have e1 : giveR k i = (k, 0, false) := by unfold giveR; rw [if_neg (by omega)]
      rw [e1]
      have hi2 : ((absT k).length : Int) ≤ i := by have := HLEN.out; omega
      clear e1
      go_enter Try.func22, Try.ntmps22
      go_wp2_with fail
      go_ret3
      exact ⟨A, cap, rfl, h, Below.refl _ _⟩
    · have hj0 : 0 ≤ i := by omega
      have hj1 : i < k.n := by omega
      have hlen : i < ((absT k).length : Int) := by have := HLEN.out; omega
      obtain ⟨ad, e, g0, g1⟩ := at_T56 h.c.2.2 i hj0 hlen
      subst e
      rw [abs_at k i hj0 hj1] at g0 g1
      dsimp only at g0 g1
      by_cases hh : k.held.getD i.toNat false = true
      · have e1 : giveR k i = (k, 0, false) := by unfold giveR; rw [if_neg (by rw [hh]; simp)]
        rw [e1]
        rw [hh] at g1
        clear e1 hh
        go_enter Try.func22, Try.ntmps22
        go_wp2_with fail
        go_ret3
        exact ⟨some ad, cap, rfl, h, Below.refl _ _⟩
      · have hh' : k.held.getD i.toNat false = false := by simpa using hh
        have e1 : giveR k i = ((k.gen i.toNat ((k.gens.getD i.toNat 0 + 1) % 65536)).hold i.toNat true, (k.gens.getD i.toNat 0 + 1) % 65536 * 64 + i, true) := by
          unfold giveR; rw [if_pos ⟨hj0, hj1, hh'⟩]
        rw [e1]
        rw [hh'] at g1
        have hg := ok.get i.toNat (by omega)
        have hadd := radd_eq (k.gens.getD i.toNat 0) 1 hg.1 (by omega) hg.2 (by omega)
        have hset : (absT k).set i.toNat ⟨(k.gens.getD i.toNat 0 + 1) % 65536, true⟩ = absT ((k.gen i.toNat ((k.gens.getD i.toNat 0 + 1) % 65536)).hold i.toNat true) :=
          abs_set k ((k.gen i.toNat ((k.gens.getD i.toNat 0 + 1) % 65536)).hold i.toNat true) rfl i.toNat (by omega) _ (fun m hm => gen_at ok i.toNat m _ (by omega)) (fun m hm => hold_at (ok.gen i.toNat _ (by omega) (by omega)) i.toNat m true (by omega))
        have hz0 : 0 ≤ (k.gens.getD i.toNat 0 + 1) % 65536 := by omega
        have hz1 : (k.gens.getD i.toNat 0 + 1) % 65536 ≤ 65535 := by omega
        generalize (k.gen i.toNat ((k.gens.getD i.toNat 0 + 1) % 65536)).hold i.toNat true = k' at *
        generalize (k.gens.getD i.toNat 0 + 1) % 65536 = g at *
        generalize k.gens.getD i.toNat 0 = y at *
        have hw1 : IntKind.i64.wrap (g * 64) = g * 64 := by rw [IntKind.wrap_i64]; omega
        have hw2 : IntKind.i64.wrap (g * 64 + i) = g * 64 + i := by rw [IntKind.wrap_i64]; omega
        have HSET := Lib.hid hset; clear hset
        have HADD := Lib.hid hadd; clear hadd
        have HJ := Lib.hid hj1; clear hj1
        clear e1 hh hh' hg hz0 hz1
        go_enter Try.func22, Try.ntmps22
        go_wp2_with fail
        refine (switchyardref01_Add.calls y 1 g _ HADD.out).mono ?_
        rintro e w1 ⟨rfl, hd⟩
        have hb := hd.below
        have hG : GI w w1.heap.size B g k (some ad) cap (w1.alloc (.cells #[.int .i64 g, .bool true] 56)) :=
          ⟨heap_alloc_new _ _, (h.below hb).below ((Below.refl _ _).alloc (Nat.le_refl _) _), hb.alloc hb.size _, hB⟩
        have HG := Lib.hid hG; clear hG hb hd
        go_wp2_with fail
        generalize w1.heap.size = z at *
        go_region_held3 (GIS w z B g k (some ad) cap)
          (first | with_reducible exact HG.out.all | exact (HG.out.keep (Below.refl _ _).drew).all | with_reducible assumption | with_reducible exact GI.next (by assumption) (by assumption))
          (first | (go_at_call 28; with_reducible refine (give_with (w := w) (z := z) (B := B) (g := g) (k := k) (k' := k') (A := some ad) (cap := cap) (by assumption) ok i hj0 HJ.out HSET.out).mono ?_; rintro e u1 ⟨A2, cap2, rfl, hS2, hb2⟩))
        rename_i hH
        have HE := Lib.hid hH.2.2.bel
        have HS := Lib.hid hS2
        clear hH hS2
        go_wp2_with fail
        go_ret3
        exact ⟨A2, cap2, rfl, HS.out, HE.out⟩

set_option maxHeartbeats 1000000 in
theorem rclear_any (k : Tb) (ok : k.Ok) (A : Option Addr) (cap B : Nat) (w : World) (h : Sg w B (.slice A (absT k).length cap) (absT k)) (hB : B ≤ w.heap.size) :
    Calls Try.prog 24 #[.slice A (absT k).length cap] w fun e w' => ∃ A' cap', e = .returned (.slice A' (absT k.none_).length cap') ∧ Sg w' B (.slice A' (absT k.none_).length cap') (absT k.none_) ∧ Below w.heap.size w w' := by
  have hn0 := ok.n0
  have hn1 := ok.n1
  rw [← abs_none k ok]
  have h0 : Sg w B (.slice A (absT (k.less 0)).length cap) (absT (k.less 0)) := by rw [less_zero]; exact h
  have HLEN := Lib.hid (fun m => show ((absT (k.less m)).length : Int) = k.n by rw [abs_len]; show (k.n.toNat : Int) = k.n; omega)
  rw [show (absT k).length = (absT (k.less 0)).length by rw [less_zero]]
  clear h
  go_enter Try.func24, Try.ntmps24
  go_wp2_with fail
  go_loopw [0, 3] (fun v j wr => ∃ (m : Nat) (A2 : Option Addr) (cap2 : Nat), m ≤ k.n.toNat ∧ j = .int .i64 m ∧ v = .slice A2 (absT (k.less m)).length cap2 ∧ Sg wr B (.slice A2 (absT (k.less m)).length cap2) (absT (k.less m)) ∧ Below w.heap.size w wr)
    (fun _ j _ => k.n.toNat - (intOf j).toNat)
  case atStart => exact ⟨0, A, cap, by omega, rfl, rfl, h0, Below.refl _ _⟩
  case round =>
    obtain ⟨m, A2, cap2, hm, rfl, rfl, hS, hT⟩ := hrel
    clear h0
    by_cases hlt : m < k.n.toNat
    · have hm0 : (0 : Int) ≤ (m : Int) := by omega
      have hm1 : (m : Int) < ((absT (k.less m)).length : Int) := by have := HLEN.out m; omega
      have hm2 : (m : Int) < (k.less m).n := by show (m : Int) < k.n; omega
      have hmb : m < 9223372036854775807 := by omega
      obtain ⟨ad, e, g0, g1⟩ := at_T56 hS.c.2.2 (m : Int) hm0 hm1
      subst e
      rw [abs_at (k.less m) _ hm0 hm2] at g0
      dsimp only at g0
      rw [Int.toNat_natCast] at g0
      have hset := abs_less k ok m hlt
      have okm := less_ok ok m (by omega)
      rw [show (k.less m).gens.getD m 0 = k.gens.getD m 0 from rfl] at g0
      generalize k.gens.getD m 0 = y at *
      have hsz := hT.size
      have HX := Lib.hid (fun u (hu : u = wr) => rwith_any (k.less m) (k.less (m + 1)) okm (m : Int) y false hm0 hm2 (by rw [Int.toNat_natCast]; exact hset) (some ad) cap2 B wr hS (by omega))
      clear hset g1 hm2 hS
      have HT := Lib.hid hT; clear hT
      go_wp2_with fail
      refine (HX.out _ rfl).mono ?_
      rintro e w2 ⟨A3, cap3, rfl, hS3, hB3⟩
      have HS3 := Lib.hid hS3; clear hS3
      have HT3 := Lib.hid (HT.out.trans (hB3.mono hsz)); clear hB3
      go_wp2_with fail
      go_roundw
      case rel => exact ⟨m + 1, A3, cap3, by omega, by go_num, rfl, HS3.out, HT3.out⟩
      case measure => simp [intOf]; omega
    · have hml : m = k.n.toNat := by omega
      have hge : ((absT (k.less m)).length : Int) ≤ (m : Int) := by have := HLEN.out m; omega
      have HM := Lib.hid hml; clear hml hm hlt
      have HS := Lib.hid hS; clear hS
      have HT := Lib.hid hT; clear hT
      go_wp2_with fail
      go_ret
      rw [← HM.out]
      exact ⟨A2, cap2, rfl, HS.out, HT.out⟩

end Go.Proofs.Ytgkjiemjghmgmaa.Grants
