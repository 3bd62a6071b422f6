/- Grant: the contracts of Slot, Drop and Held. -/
import Derived.Test.YtgkjiemjghmgmaaBase
import Derived.OwnWalk
namespace Go.Proofs.Ytgkjiemjghmgmaa.Grants
set_option linter.unusedVariables false
set_option linter.unusedSimpArgs false
open Go.RowKit

/-- Is a handle good? -/
def good (k : Tb) (h : Int) : Prop := h % 64 < k.n ∧ k.held.getD (h % 64).toNat false = true ∧ k.gens.getD (h % 64).toNat 0 * 64 + h % 64 = h
instance (k : Tb) (h : Int) : Decidable (good k h) := by unfold good; infer_instance

/-- What Slot tells. -/
def slotR (k : Tb) (h : Int) : Int × Bool := if good k h then (h % 64, true) else (0, false)

theorem slot_yes {k : Tb} {x : Int} {j : Nat} (hj : x % 64 = (j : Int)) : ((j : Int) < k.n ∧ k.held.getD j false = true ∧ k.gens.getD j 0 * 64 + (j : Int) = x) → slotR k x = ((j : Int), true) := fun h => by
  unfold slotR
  have hg : good k x := by unfold good; rw [hj, Int.toNat_natCast]; exact h
  rw [if_pos hg, hj]
theorem slot_no {k : Tb} {x : Int} {j : Nat} (hj : x % 64 = (j : Int)) : ¬ ((j : Int) < k.n ∧ k.held.getD j false = true ∧ k.gens.getD j 0 * 64 + (j : Int) = x) → slotR k x = (0, false) := fun h => by
  unfold slotR
  have hg : ¬ good k x := by unfold good; rw [hj, Int.toNat_natCast]; exact h
  rw [if_neg hg]

set_option maxHeartbeats 1000000 in
theorem slot_any (b : Nat) (x : Int) (k : Tb) (w : World) (h : At w b k) (ok : k.Ok) :
    Calls Try.prog 9 #[.pointer (some ⟨b, 0, none⟩), .int .i64 x] w fun e w' => e = .returned (.tuple #[.int .i64 (slotR k x).1, .bool (slotR k x).2]) ∧ w = w' := by
  have h0 := h.n
  have hn1 := ok.n1
  have ha := and63 x
  obtain ⟨j, hj⟩ := Int.eq_ofNat_of_zero_le (by omega : 0 ≤ x % 64)
  have hj64 : j < 64 := by omega
  have hyes := Lib.hid (slot_yes (k := k) hj)
  have hno := Lib.hid (slot_no (k := k) hj)
  rw [hj] at ha
  have HJ := Lib.hid hj; clear hj
  by_cases h1 : k.n ≤ (j : Int)
  · rw [hno.out (by omega)]
    have HA := Lib.hid ha; clear ha
    go_enter Try.func9, Try.ntmps9
    go_wp2_with fail
    refine (len_any b k.n _ h0).mono ?_
    rintro e w' ⟨rfl, rfl⟩
    rw [HA.out]
    go_wp2_with fail
    go_ret2
    exact ⟨rfl, rfl⟩
  · have hu := h.up ok j hj64
    cases hx : k.held.getD j false
    · rw [hno.out (by rw [hx]; simp)]
      rw [hx] at hu
      have HA := Lib.hid ha; clear ha hx
      go_enter Try.func9, Try.ntmps9
      go_wp2_with fail
      refine (len_any b k.n _ h0).mono ?_
      rintro e w' ⟨rfl, rfl⟩
      rw [HA.out]
      go_wp2_with fail
      go_ret2
      exact ⟨rfl, rfl⟩
    · rw [hx] at hu
      obtain ⟨r0, r1⟩ := ok.get j hj64
      have hg := h.gen ok j hj64
      rw [hx] at hyes hno
      generalize k.gens.getD j 0 = g at *
      by_cases he : g * 64 + (j : Int) = x
      · rw [hyes.out ⟨by omega, rfl, he⟩]
        have hb : (g * 64 + (j : Int) != x) = false := by rw [bne_eq_false_iff_eq]; exact he
        have HA := Lib.hid ha; clear ha hx he
        go_enter Try.func9, Try.ntmps9
        go_wp2_with fail
        refine (len_any b k.n _ h0).mono ?_
        rintro e w' ⟨rfl, rfl⟩
        rw [HA.out]
        go_wp2_with fail
        go_ret2
        exact ⟨rfl, rfl⟩
      · rw [hno.out (by rintro ⟨-, -, q⟩; exact he q)]
        have hb : (g * 64 + (j : Int) != x) = true := by rw [bne_iff_ne]; exact he
        have HA := Lib.hid ha; clear ha hx he
        go_enter Try.func9, Try.ntmps9
        go_wp2_with fail
        refine (len_any b k.n _ h0).mono ?_
        rintro e w' ⟨rfl, rfl⟩
        rw [HA.out]
        go_wp2_with fail
        go_ret2
        exact ⟨rfl, rfl⟩

theorem slot_nil (x : Int) (w : World) :
    Calls Try.prog 9 #[.pointer none, .int .i64 x] w fun e w' => e = .returned (.tuple #[.int .i64 0, .bool false]) ∧ w = w' := by
  have ha := and63 x
  obtain ⟨j, hj⟩ := Int.eq_ofNat_of_zero_le (by omega : 0 ≤ x % 64)
  rw [hj] at ha
  have HA := Lib.hid ha; clear ha hj
  go_enter Try.func9, Try.ntmps9
  go_wp2_with fail
  refine (len_nil _).mono ?_
  rintro e w' ⟨rfl, rfl⟩
  rw [HA.out]
  go_wp2_with fail
  go_ret2
  exact ⟨rfl, rfl⟩

/-- What Drop tells: (the table, the error). -/
def dropR (k : Tb) (h : Int) : Tb × Int := if good k h then (k.hold (h % 64).toNat false, 0) else (k, 7)

set_option maxHeartbeats 1000000 in
theorem drop_any (b : Nat) (x : Int) (k : Tb) (w : World) (h : At w b k) (ok : k.Ok) :
    Calls Try.prog 11 #[.pointer (some ⟨b, 0, none⟩), .int .i64 x] w fun e w' => e = .returned (.int .i64 (dropR k x).2) ∧ At w' b (dropR k x).1 ∧ w.grownBy w' (some b) := by
  have C := Lib.hid (slot_any b x k w h ok)
  unfold dropR
  by_cases hg : good k x
  · rw [if_pos hg]
    have hs : slotR k x = (x % 64, true) := by unfold slotR; rw [if_pos hg]
    obtain ⟨j, hj⟩ := Int.eq_ofNat_of_zero_le (by omega : 0 ≤ x % 64)
    have hj64 : j < 64 := by omega
    rw [hj] at hs ⊢
    rw [Int.toNat_natCast]
    have hu := h.up ok j hj64
    have hf := h.free (65 + j)
    have HA := Lib.hid (h.hold ok j false)
    have HS := Lib.hid hs
    clear hs hg hj
    go_enter Try.func11, Try.ntmps11
    go_wp2_with fail
    refine C.out.mono ?_
    rintro e w' ⟨rfl, rfl⟩
    rw [HS.out]
    go_wp2_with fail
    go_ret
    exact ⟨rfl, HA.out, grown_set _ _ _⟩
  · rw [if_neg hg]
    have hs : slotR k x = (0, false) := by unfold slotR; rw [if_neg hg]
    have HS := Lib.hid hs
    clear hs hg
    go_enter Try.func11, Try.ntmps11
    go_wp2_with fail
    refine C.out.mono ?_
    rintro e w' ⟨rfl, rfl⟩
    rw [HS.out]
    go_wp2_with fail
    go_ret
    exact ⟨rfl, h, grown_self _ _⟩

theorem drop_nil (x : Int) (w : World) :
    Calls Try.prog 11 #[.pointer none, .int .i64 x] w fun e w' => e = .returned (.int .i64 1) ∧ w = w' := by
  go_enter Try.func11, Try.ntmps11
  go_wp2_with fail
  go_ret
  exact ⟨rfl, rfl⟩

/-- The numbers below m of the slots that are held. -/
def heldTo (held : List Bool) (m : Nat) : List Int := ((List.range m).filter fun j => held.getD j false).map fun j : Nat => (j : Int)
theorem heldTo_zero (held : List Bool) : heldTo held 0 = [] := rfl
theorem heldTo_yes (held : List Bool) (m : Nat) (h : held.getD m false = true) : heldTo held (m + 1) = heldTo held m ++ [(m : Int)] := by
  unfold heldTo
  rw [List.range_succ, List.filter_append, List.map_append, List.filter_cons_of_pos (p := fun j => held.getD j false) h]
  rfl
theorem heldTo_no (held : List Bool) (m : Nat) (h : held.getD m false = false) : heldTo held (m + 1) = heldTo held m := by
  unfold heldTo
  rw [List.range_succ, List.filter_append, List.map_append, List.filter_cons_of_neg (p := fun j => held.getD j false) (by rw [h]; simp)]
  simp
theorem heldTo_len (held : List Bool) (m : Nat) : (heldTo held m).length ≤ m := by
  unfold heldTo
  rw [List.length_map]
  exact Nat.le_trans (List.length_filter_le _ _) (by simp)

def heldR (k : Tb) : List Int := heldTo k.held k.n.toNat

theorem Try.info3 : (Try.prog.info? 3).map (fun i => (i.zero, i.size, i.bytes)) = some (some (.int .i64 0), 1, 8) := by kernel_rfl

theorem own_base {w : World} {base : Nat} {e : TypeId} {size : Nat} {v : Value} {n : Nat} {xs : List Value} (h : w.ownsRow base e size v n xs) : ∀ k, v.ownBlock = some k → base ≤ k := by
  rintro k hk
  obtain ⟨-, ⟨rfl, -⟩ | ⟨g, cap, cur, rfl, hg, -⟩⟩ := h
  · simp [Value.ownBlock] at hk
  · simp [Value.ownBlock] at hk; omega

set_option maxHeartbeats 1000000 in
theorem held_any (b : Nat) (k : Tb) (w : World) (h : At w b k) (ok : k.Ok) :
    Calls Try.prog 12 #[.pointer (some ⟨b, 0, none⟩)] w fun e w' => ∃ v, e = .returned v ∧ w'.ownsRow w.heap.size 3 1 v (heldR k).length ((heldR k).map (Value.int .i64)) ∧ Below w.heap.size w w' := by
  have h0 := h.n
  have hbw : b < w.heap.size := lt_of_block h
  have hn0 := ok.n0
  have hn1 := ok.n1
  unfold heldR
  obtain ⟨n, hn⟩ := Int.eq_ofNat_of_zero_le (by omega : 0 ≤ k.n)
  rw [hn] at h0 hn0 hn1 ⊢
  rw [Int.toNat_natCast]
  have HN := Lib.hid hn; clear hn
  obtain ⟨i0, hi, hz0, hz1, hz2⟩ := info_parts Try.info3
  go_enter Try.func12, Try.ntmps12
  go_wp2_with fail
  refine (len_any b n _ h0).mono ?_
  rintro e w' ⟨rfl, rfl⟩
  go_wp2_with fail
  go_loopw [3, 7] (fun v i wr => ∃ m : Nat, m ≤ n ∧ i = .int .i64 m ∧ wr.ownsRow w.heap.size 3 1 v (heldTo k.held m).length ((heldTo k.held m).map (Value.int .i64)) ∧ Below w.heap.size w wr)
    (fun _ i _ => n - (intOf i).toNat)
  case atStart => exact ⟨0, by omega, rfl, World.ownsRow_nil _ _ _ _, Below.refl _ _⟩
  case round =>
    obtain ⟨m, hm, rfl, hown, hbel⟩ := hrel
    by_cases hlt : m < n
    · have hL := heldTo_len k.held m
      have hbs := hbel.size
      have hc := (hbel.cell (p := ⟨b, 65 + m, none⟩) hbw).trans (h.up ok m (by omega))
      cases hx : k.held.getD m false
      · have hy := Lib.hid (heldTo_no k.held m hx)
        rw [hx] at hc
        clear hx
        go_wp2_with fail
        go_roundw
        case rel => exact ⟨m + 1, by omega, by go_num, by rw [hy.out]; exact hown, hbel⟩
        case measure => simp [intOf]; omega
      · have hy := Lib.hid (heldTo_yes k.held m hx)
        rw [hx] at hc
        clear hx
        go_wp2_with (at_builtin; refine wpList_append_own _ rfl _ _ 26 rfl w.heap.size 3 i0 (.int .i64 0) 1 8 Try.underlying26 hi hz0 hz1 hz2 rfl (by decide) _ _ _ rfl (hown.alloc _) ⟨wr.heap.size, 0, none⟩ 1 1 [.int .i64 (m : Int)] rfl rfl ?c1 ?c2 ?c3 ?c4 ?c5 ?_)
        case c1 =>
          intro j u hj
          match j, hj with
          | 0, hj => simp at hj; subst hj; simp [Addr.add]
        case c2 => intro u hu; simp at hu; subst hu; rfl
        case c3 => unfold maxLen; omega
        case c4 => omega
        case c5 => simp; omega
        intro v' w1 hown' hgrow _
        have hb1 : Below w.heap.size w w1 := (hbel.alloc hbs _).grown hgrow (by simp; omega) (own_base hown)
        have hown2 : w1.ownsRow w.heap.size 3 1 v' (heldTo k.held (m + 1)).length ((heldTo k.held (m + 1)).map (Value.int .i64)) := by
          rw [hy.out]; simpa using hown'
        clear hown' hgrow hown hbel
        go_wp2_with fail
        go_roundw
        case rel => exact ⟨m + 1, by omega, by go_num, hown2, hb1⟩
        case measure => simp [intOf]; omega
    · have hm16 : m = n := by omega
      subst hm16
      go_wp2_with fail
      go_ret
      exact ⟨_, rfl, hown, hbel⟩

theorem held_nil (w : World) :
    Calls Try.prog 12 #[.pointer none] w fun e w' => e = .returned (.slice none 0 0) ∧ w = w' := by
  go_enter Try.func12, Try.ntmps12
  go_wp2_with fail
  refine (len_nil _).mono ?_
  rintro e w' ⟨rfl, rfl⟩
  go_wp2_with fail
  go_loopw [3, 7] (fun v i wr => v = .slice none 0 0 ∧ i = .int .i64 0 ∧ w = wr) (fun _ i _ => 0)
  case atStart => exact ⟨rfl, rfl, rfl⟩
  case round =>
    obtain ⟨rfl, rfl, rfl⟩ := hrel
    go_wp2_with fail
    go_ret
    exact ⟨rfl, rfl⟩

end Go.Proofs.Ytgkjiemjghmgmaa.Grants
