/- LocksOne: the walk of the law: whatever the numbers, the calls and the lock, it comes to true, and what was there in memory is as it was. -/
import Derived.Test.YtloifnnofldgmaaOneLaw
import Derived.Test.YtloifnnofldgmaaOps
namespace Go.Proofs.Ytloifnnofldgmaa.Locks
set_option linter.unusedVariables false
set_option linter.unusedSimpArgs false
open Go.RowKit

theorem neq_ptr (b : Nat) (w : World) : (binOp .eql 23 (.pointer (some ⟨b, 0, none⟩)) (.pointer none)).run Try.prog w = .ok (.bool false) w := by kernel_rfl
theorem new_own (c n : Int) (m : Nat) : (newBk c n).own.getD m 0 = 0 := by
  unfold newBk
  simp only [List.getD_eq_getElem?_getD, List.getElem?_replicate]
  split <;> rfl

/-- A Try that got a lock was of a core. -/
theorem try_core {k : Bk} {c l e : Int} (h : (doR k 0 c l).2 = (1, e)) : 0 ≤ c ∧ c < k.cores := by
  have e1 : doR k 0 c l = ((tryR k c l).1, (if (tryR k c l).2.1 = true then 1 else 0), (tryR k c l).2.2) := rfl
  rw [e1] at h
  unfold tryR at h
  by_cases hb : bothE k c l = 0
  · obtain ⟨b1, b2, b3, b4⟩ := both_in hb
    exact ⟨b1, b2⟩
  · rw [if_neg hb] at h
    simp at h

theorem lock_in {k : Bk} {m : Nat} (h : (m : Int) < k.n) : lockE k.n (m : Int) = 0 := by unfold lockE; rw [if_pos (by omega)]
theorem owner_in {k : Bk} {m : Nat} {o : Int} (h : (m : Int) < k.n) (ho : k.own.getD m 0 = o + 1) : ownerR k (m : Int) = o := by
  unfold ownerR
  rw [if_pos (lock_in h), Int.toNat_natCast, ho]
  omega

theorem eq_nil (w : World) : (binOp .eql 23 (.pointer none) (.pointer none)).run Try.prog w = .ok (.bool true) w := by kernel_rfl

set_option maxHeartbeats 2000000 in
set_option maxRecDepth 100000 in
theorem one_walk (c n i : Int) (A : Option Addr) (len cap : Nat) (ops : List (List Int)) (w : World) (ho : Ops.OpsAt w w.heap.size 3 (.slice A len cap) ops) :
    Calls Try.prog 3 #[.int .i64 c, .int .i64 n, .slice A len cap, .int .i64 i] w fun e w' => e = .returned (.bool true) ∧ Below w.heap.size w w' := by
  obtain ⟨A', len', cap', hv, hol, hlm, hall, hcells⟩ := ho
  injection hv with e1 e2 e3
  subst e1 e2 e3
  unfold maxLen at hlm
  have HALL := Lib.hid hall; clear hall
  have HOL := Lib.hid hol; clear hol
  have HC := Lib.hid hcells; clear hcells
  by_cases hn : isNew c n
  · have ok0 := newBk_ok hn
    have heq := neq_ptr
    have hn2 := hn
    obtain ⟨q1, q2, q3, q4⟩ := hn2
    by_cases h1 : 100 < len
    · go_enter Try.func3, Try.ntmps3
      go_wp2_with fail
      refine (new_yes c n _ hn).mono ?_
      rintro e w1 ⟨rfl, hA1, hB1, hs1⟩
      go_wp2_with fail
      refine (alive_any _).mono ?_
      rintro e w' ⟨rfl, hBa⟩
      have hBt : Below w.heap.size w w' := hB1.trans (hBa.mono (by omega))
      clear hBa
      go_wp2_with fail
      go_ret
      exact ⟨rfl, hBt⟩
    · by_cases h2 : i < 0
      · go_enter Try.func3, Try.ntmps3
        go_wp2_with fail
        refine (new_yes c n _ hn).mono ?_
        rintro e w1 ⟨rfl, hA1, hB1, hs1⟩
        go_wp2_with fail
        refine (alive_any _).mono ?_
        rintro e w' ⟨rfl, hBa⟩
        have hBt : Below w.heap.size w w' := hB1.trans (hBa.mono (by omega))
        clear hBa
        go_wp2_with fail
        go_ret
        exact ⟨rfl, hBt⟩
      · by_cases h3 : n ≤ i
        · go_enter Try.func3, Try.ntmps3
          go_wp2_with fail
          refine (new_yes c n _ hn).mono ?_
          rintro e w1 ⟨rfl, hA1, hB1, hs1⟩
          have hn1 := hA1.n
          rw [show (newBk c n).n = n from rfl] at hn1
          go_wp2_with fail
          refine (len_any _ n _ hn1).mono ?_
          rintro e w' ⟨rfl, rfl⟩
          go_wp2_with fail
          refine (alive_any _).mono ?_
          rintro e w' ⟨rfl, hBa⟩
          have hBt : Below w.heap.size w w' := hB1.trans (hBa.mono (by omega))
          clear hBa
          go_wp2_with fail
          go_ret
          exact ⟨rfl, hBt⟩
        · obtain ⟨m0, rfl⟩ := Int.eq_ofNat_of_zero_le (by omega : 0 ≤ i)
          go_enter Try.func3, Try.ntmps3
          go_wp2_with fail
          refine (new_yes c n _ hn).mono ?_
          rintro e w1 ⟨rfl, hA1, hB1, hs1⟩
          have hn1 := hA1.n
          rw [show (newBk c n).n = n from rfl] at hn1
          go_wp2_with fail
          refine (len_any _ n _ hn1).mono ?_
          rintro e w' ⟨rfl, rfl⟩
          go_wp2_with fail
          clear hn1
          have hown0 : (newBk c n).own.getD m0 0 = (-1 : Int) + 1 := new_own c n m0
          go_loopw [10, 40] (fun o j wr => ∃ (m : Nat) (k : Bk) (owner : Int), m ≤ len ∧ j = .int .i64 m ∧ o = .int .i64 owner ∧ -1 ≤ owner ∧ owner ≤ 7 ∧ k.own.getD m0 0 = owner + 1 ∧ k.n = n ∧ k.Ok ∧ At wr w.heap.size k ∧ Below w.heap.size w wr ∧ w.heap.size < wr.heap.size)
            (fun _ j _ => len - (intOf j).toNat)
          case atStart => exact ⟨0, newBk c n, -1, by omega, rfl, rfl, by omega, by omega, hown0, rfl, ok0, hA1, hB1, hs1⟩
          case round =>
            obtain ⟨m, k, owner, hm, rfl, rfl, hlo, hhi, hown, hkn, ok, hA, hB, hs⟩ := hrel
            clear hown0 hA1 hB1 hs1
            by_cases hlt : m < len
            · obtain ⟨b0, off, rfl, hb0, hcell⟩ := HC.out (by omega)
              have g0 := hcell m 0 hlt (by omega)
              have g1 := hcell m 1 hlt (by omega)
              have g2 := hcell m 2 hlt (by omega)
              clear hcell
              obtain ⟨-, hrg⟩ := HALL.out (ops.getD m []) (by rw [List.getD_eq_getElem?_getD, List.getElem?_eq_getElem (by rw [HOL.out]; exact hlt)]; exact List.getElem_mem _)
              generalize hk0 : (ops.getD m []).getD 0 0 = kind at *
              generalize hk1 : (ops.getD m []).getD 1 0 = core at *
              generalize hk2 : (ops.getD m []).getD 2 0 = l at *
              clear hk0 hk1 hk2 hrg
              have f0 : wr.cell? ⟨b0, off + m * 3, none⟩ = some (.int .i64 kind) := (hB.cell (p := ⟨b0, off + m * 3, none⟩) hb0).trans g0
              have f1 : wr.cell? ⟨b0, off + m * 3 + 1, none⟩ = some (.int .i64 core) := (hB.cell (p := ⟨b0, off + m * 3 + 1, none⟩) hb0).trans g1
              have f2 : wr.cell? ⟨b0, off + m * 3 + 2, none⟩ = some (.int .i64 l) := (hB.cell (p := ⟨b0, off + m * 3 + 2, none⟩) hb0).trans g2
              clear g0 g1 g2
              obtain ⟨x, e, hx⟩ : ∃ x e, (doR k kind core l).2 = (x, e) := ⟨_, _, rfl⟩
              have hdn := doR_n k kind core l
              have hdo := doR_ok ok kind core l
              have hmn : (m0 : Int) < k.n := by omega
              rw [hkn] at hdn
              have hbounds : m < 9223372036854775807 := by omega
              by_cases h0 : kind = 0
              · subst h0
                rcases step0 ok core l m0 hmn owner hown x e hx with ⟨hs', rfl, rfl, rfl, rfl⟩ | ⟨hs', ⟨rfl, rfl, rfl, hge⟩ | ⟨rfl, hne⟩ | hne⟩
                · have hcr := try_core hx
                  have hcr8 := ok.c1
                  have HO := Lib.hid (owner_in (k := (doR k 0 core (m0 : Int)).1) (m := m0) (o := core) (by rw [hdn]; omega) hs')
                  have HL := Lib.hid (lock_in (k := (doR k 0 core (m0 : Int)).1) (m := m0) (by rw [hdn]; omega))
                  have HS := Lib.hid hs'; clear hs'
                  have HX := Lib.hid hx; clear hx
                  have HN := Lib.hid hdn; clear hdn
                  have HK := Lib.hid hkn; clear hkn
                  have HW := Lib.hid hown; clear hown
                  go_wp2_with fail
                  refine (do_any _ _ _ _ k _ (hA.alloc _) ok).mono ?_
                  rintro e2 w2 ⟨rfl, hA2, hG2⟩
                  rw [HX.out]
                  have hz2 : wr.heap.size < w2.heap.size := by have := hG2.size; simp at this; omega
                  have k0 : w2.cell? ⟨wr.heap.size, 0, none⟩ = some (.int .i64 0) := hG2.cell (a := ⟨wr.heap.size, 0, none⟩) (by go_simp) (by simp; omega)
                  have k1 : w2.cell? ⟨wr.heap.size, 1, none⟩ = some (.int .i64 core) := hG2.cell (a := ⟨wr.heap.size, 1, none⟩) (by go_simp) (by simp; omega)
                  have k2 : w2.cell? ⟨wr.heap.size, 2, none⟩ = some (.int .i64 (m0 : Int)) := hG2.cell (a := ⟨wr.heap.size, 2, none⟩) (by go_simp) (by simp; omega)
                  have hB2 : Below w.heap.size w w2 := below_grown (hB.alloc hB.size _) hG2 (by have := hB.size; simp; omega) (Nat.le_refl _)
                  have HB2 := Lib.hid hB2; clear hB2 hG2
                  go_wp2_with fail
                  refine (owner_any _ _ _ _ hA2 hdo).mono ?_
                  rintro e3 w3 ⟨rfl, rfl⟩
                  rw [HO.out, HL.out]
                  go_wp2_with fail
                  go_roundw
                  case rel => exact ⟨m + 1, _, core, by omega, by go_num, rfl, by omega, by omega, HS.out, HN.out, hdo, hA2, HB2.out, by omega⟩
                  case measure => simp [intOf]; omega
                · have hb1 : decide (owner < 0) = false := by simpa using hge
                  have HO := Lib.hid (owner_in (k := (doR k 0 core (m0 : Int)).1) (m := m0) (o := owner) (by rw [hdn]; omega) hs')
                  have HL := Lib.hid (lock_in (k := (doR k 0 core (m0 : Int)).1) (m := m0) (by rw [hdn]; omega))
                  have HS := Lib.hid hs'; clear hs'
                  have HX := Lib.hid hx; clear hx
                  have HN := Lib.hid hdn; clear hdn
                  have HK := Lib.hid hkn; clear hkn
                  have HW := Lib.hid hown; clear hown
                  go_wp2_with fail
                  refine (do_any _ _ _ _ k _ (hA.alloc _) ok).mono ?_
                  rintro e2 w2 ⟨rfl, hA2, hG2⟩
                  rw [HX.out]
                  have hz2 : wr.heap.size < w2.heap.size := by have := hG2.size; simp at this; omega
                  have k0 : w2.cell? ⟨wr.heap.size, 0, none⟩ = some (.int .i64 0) := hG2.cell (a := ⟨wr.heap.size, 0, none⟩) (by go_simp) (by simp; omega)
                  have k1 : w2.cell? ⟨wr.heap.size, 1, none⟩ = some (.int .i64 core) := hG2.cell (a := ⟨wr.heap.size, 1, none⟩) (by go_simp) (by simp; omega)
                  have k2 : w2.cell? ⟨wr.heap.size, 2, none⟩ = some (.int .i64 (m0 : Int)) := hG2.cell (a := ⟨wr.heap.size, 2, none⟩) (by go_simp) (by simp; omega)
                  have hB2 : Below w.heap.size w w2 := below_grown (hB.alloc hB.size _) hG2 (by have := hB.size; simp; omega) (Nat.le_refl _)
                  have HB2 := Lib.hid hB2; clear hB2 hG2
                  go_wp2_with fail
                  refine (owner_any _ _ _ _ hA2 hdo).mono ?_
                  rintro e3 w3 ⟨rfl, rfl⟩
                  rw [HO.out, HL.out]
                  go_wp2_with fail
                  go_roundw
                  case rel => exact ⟨m + 1, _, owner, by omega, by go_num, rfl, by omega, by omega, HS.out, HN.out, hdo, hA2, HB2.out, by omega⟩
                  case measure => simp [intOf]; omega
                · have hb1 : (e == 0) = false := by rw [beq_eq_false_iff_ne]; exact hne
                  clear hne
                  have HO := Lib.hid (owner_in (k := (doR k 0 core (m0 : Int)).1) (m := m0) (o := owner) (by rw [hdn]; omega) hs')
                  have HL := Lib.hid (lock_in (k := (doR k 0 core (m0 : Int)).1) (m := m0) (by rw [hdn]; omega))
                  have HS := Lib.hid hs'; clear hs'
                  have HX := Lib.hid hx; clear hx
                  have HN := Lib.hid hdn; clear hdn
                  have HK := Lib.hid hkn; clear hkn
                  have HW := Lib.hid hown; clear hown
                  go_wp2_with fail
                  refine (do_any _ _ _ _ k _ (hA.alloc _) ok).mono ?_
                  rintro e2 w2 ⟨rfl, hA2, hG2⟩
                  rw [HX.out]
                  have hz2 : wr.heap.size < w2.heap.size := by have := hG2.size; simp at this; omega
                  have k0 : w2.cell? ⟨wr.heap.size, 0, none⟩ = some (.int .i64 0) := hG2.cell (a := ⟨wr.heap.size, 0, none⟩) (by go_simp) (by simp; omega)
                  have k1 : w2.cell? ⟨wr.heap.size, 1, none⟩ = some (.int .i64 core) := hG2.cell (a := ⟨wr.heap.size, 1, none⟩) (by go_simp) (by simp; omega)
                  have k2 : w2.cell? ⟨wr.heap.size, 2, none⟩ = some (.int .i64 (m0 : Int)) := hG2.cell (a := ⟨wr.heap.size, 2, none⟩) (by go_simp) (by simp; omega)
                  have hB2 : Below w.heap.size w w2 := below_grown (hB.alloc hB.size _) hG2 (by have := hB.size; simp; omega) (Nat.le_refl _)
                  have HB2 := Lib.hid hB2; clear hB2 hG2
                  go_wp2_with fail
                  refine (owner_any _ _ _ _ hA2 hdo).mono ?_
                  rintro e3 w3 ⟨rfl, rfl⟩
                  rw [HO.out, HL.out]
                  go_wp2_with fail
                  go_roundw
                  case rel => exact ⟨m + 1, _, owner, by omega, by go_num, rfl, by omega, by omega, HS.out, HN.out, hdo, hA2, HB2.out, by omega⟩
                  case measure => simp [intOf]; omega
                · have hb1 : (l == (m0 : Int)) = false := by rw [beq_eq_false_iff_ne]; exact hne
                  clear hne
                  have HO := Lib.hid (owner_in (k := (doR k 0 core l).1) (m := m0) (o := owner) (by rw [hdn]; omega) hs')
                  have HL := Lib.hid (lock_in (k := (doR k 0 core l).1) (m := m0) (by rw [hdn]; omega))
                  have HS := Lib.hid hs'; clear hs'
                  have HX := Lib.hid hx; clear hx
                  have HN := Lib.hid hdn; clear hdn
                  have HK := Lib.hid hkn; clear hkn
                  have HW := Lib.hid hown; clear hown
                  go_wp2_with fail
                  refine (do_any _ _ _ _ k _ (hA.alloc _) ok).mono ?_
                  rintro e2 w2 ⟨rfl, hA2, hG2⟩
                  rw [HX.out]
                  have hz2 : wr.heap.size < w2.heap.size := by have := hG2.size; simp at this; omega
                  have k0 : w2.cell? ⟨wr.heap.size, 0, none⟩ = some (.int .i64 0) := hG2.cell (a := ⟨wr.heap.size, 0, none⟩) (by go_simp) (by simp; omega)
                  have k1 : w2.cell? ⟨wr.heap.size, 1, none⟩ = some (.int .i64 core) := hG2.cell (a := ⟨wr.heap.size, 1, none⟩) (by go_simp) (by simp; omega)
                  have k2 : w2.cell? ⟨wr.heap.size, 2, none⟩ = some (.int .i64 l) := hG2.cell (a := ⟨wr.heap.size, 2, none⟩) (by go_simp) (by simp; omega)
                  have hB2 : Below w.heap.size w w2 := below_grown (hB.alloc hB.size _) hG2 (by have := hB.size; simp; omega) (Nat.le_refl _)
                  have HB2 := Lib.hid hB2; clear hB2 hG2
                  go_wp2_with fail
                  refine (owner_any _ _ _ _ hA2 hdo).mono ?_
                  rintro e3 w3 ⟨rfl, rfl⟩
                  rw [HO.out, HL.out]
                  go_wp2_with fail
                  go_roundw
                  case rel => exact ⟨m + 1, _, owner, by omega, by go_num, rfl, by omega, by omega, HS.out, HN.out, hdo, hA2, HB2.out, by omega⟩
                  case measure => simp [intOf]; omega
              · have hk0 : (kind == 0) = false := by rw [beq_eq_false_iff_ne]; exact h0
                by_cases h1' : kind = 1
                · subst h1'
                  rcases step1 ok core l m0 hmn owner hown x e hx with ⟨hs', rfl, rfl, rfl⟩ | ⟨hs', ⟨rfl, hne⟩ | hne⟩
                  · have hs' : _ = (-1 : Int) + 1 := hs'
                    have HO := Lib.hid (owner_in (k := (doR k 1 owner (m0 : Int)).1) (m := m0) (o := (-1)) (by rw [hdn]; omega) hs')
                    have HL := Lib.hid (lock_in (k := (doR k 1 owner (m0 : Int)).1) (m := m0) (by rw [hdn]; omega))
                    have HS := Lib.hid hs'; clear hs'
                    have HX := Lib.hid hx; clear hx
                    have HN := Lib.hid hdn; clear hdn
                    have HK := Lib.hid hkn; clear hkn
                    have HW := Lib.hid hown; clear hown
                    go_wp2_with fail
                    refine (do_any _ _ _ _ k _ (hA.alloc _) ok).mono ?_
                    rintro e2 w2 ⟨rfl, hA2, hG2⟩
                    rw [HX.out]
                    have hz2 : wr.heap.size < w2.heap.size := by have := hG2.size; simp at this; omega
                    have k0 : w2.cell? ⟨wr.heap.size, 0, none⟩ = some (.int .i64 1) := hG2.cell (a := ⟨wr.heap.size, 0, none⟩) (by go_simp) (by simp; omega)
                    have k1 : w2.cell? ⟨wr.heap.size, 1, none⟩ = some (.int .i64 owner) := hG2.cell (a := ⟨wr.heap.size, 1, none⟩) (by go_simp) (by simp; omega)
                    have k2 : w2.cell? ⟨wr.heap.size, 2, none⟩ = some (.int .i64 (m0 : Int)) := hG2.cell (a := ⟨wr.heap.size, 2, none⟩) (by go_simp) (by simp; omega)
                    have hB2 : Below w.heap.size w w2 := below_grown (hB.alloc hB.size _) hG2 (by have := hB.size; simp; omega) (Nat.le_refl _)
                    have HB2 := Lib.hid hB2; clear hB2 hG2
                    go_wp2_with fail
                    refine (owner_any _ _ _ _ hA2 hdo).mono ?_
                    rintro e3 w3 ⟨rfl, rfl⟩
                    rw [HO.out, HL.out]
                    go_wp2_with fail
                    go_roundw
                    case rel => exact ⟨m + 1, _, (-1), by omega, by go_num, rfl, by omega, by omega, HS.out, HN.out, hdo, hA2, HB2.out, by omega⟩
                    case measure => simp [intOf]; omega
                  · have hb1 : (e == 0) = false := by rw [beq_eq_false_iff_ne]; exact hne
                    clear hne
                    have HO := Lib.hid (owner_in (k := (doR k 1 core (m0 : Int)).1) (m := m0) (o := owner) (by rw [hdn]; omega) hs')
                    have HL := Lib.hid (lock_in (k := (doR k 1 core (m0 : Int)).1) (m := m0) (by rw [hdn]; omega))
                    have HS := Lib.hid hs'; clear hs'
                    have HX := Lib.hid hx; clear hx
                    have HN := Lib.hid hdn; clear hdn
                    have HK := Lib.hid hkn; clear hkn
                    have HW := Lib.hid hown; clear hown
                    go_wp2_with fail
                    refine (do_any _ _ _ _ k _ (hA.alloc _) ok).mono ?_
                    rintro e2 w2 ⟨rfl, hA2, hG2⟩
                    rw [HX.out]
                    have hz2 : wr.heap.size < w2.heap.size := by have := hG2.size; simp at this; omega
                    have k0 : w2.cell? ⟨wr.heap.size, 0, none⟩ = some (.int .i64 1) := hG2.cell (a := ⟨wr.heap.size, 0, none⟩) (by go_simp) (by simp; omega)
                    have k1 : w2.cell? ⟨wr.heap.size, 1, none⟩ = some (.int .i64 core) := hG2.cell (a := ⟨wr.heap.size, 1, none⟩) (by go_simp) (by simp; omega)
                    have k2 : w2.cell? ⟨wr.heap.size, 2, none⟩ = some (.int .i64 (m0 : Int)) := hG2.cell (a := ⟨wr.heap.size, 2, none⟩) (by go_simp) (by simp; omega)
                    have hB2 : Below w.heap.size w w2 := below_grown (hB.alloc hB.size _) hG2 (by have := hB.size; simp; omega) (Nat.le_refl _)
                    have HB2 := Lib.hid hB2; clear hB2 hG2
                    go_wp2_with fail
                    refine (owner_any _ _ _ _ hA2 hdo).mono ?_
                    rintro e3 w3 ⟨rfl, rfl⟩
                    rw [HO.out, HL.out]
                    go_wp2_with fail
                    go_roundw
                    case rel => exact ⟨m + 1, _, owner, by omega, by go_num, rfl, by omega, by omega, HS.out, HN.out, hdo, hA2, HB2.out, by omega⟩
                    case measure => simp [intOf]; omega
                  · have hb1 : (l == (m0 : Int)) = false := by rw [beq_eq_false_iff_ne]; exact hne
                    clear hne
                    have HO := Lib.hid (owner_in (k := (doR k 1 core l).1) (m := m0) (o := owner) (by rw [hdn]; omega) hs')
                    have HL := Lib.hid (lock_in (k := (doR k 1 core l).1) (m := m0) (by rw [hdn]; omega))
                    have HS := Lib.hid hs'; clear hs'
                    have HX := Lib.hid hx; clear hx
                    have HN := Lib.hid hdn; clear hdn
                    have HK := Lib.hid hkn; clear hkn
                    have HW := Lib.hid hown; clear hown
                    go_wp2_with fail
                    refine (do_any _ _ _ _ k _ (hA.alloc _) ok).mono ?_
                    rintro e2 w2 ⟨rfl, hA2, hG2⟩
                    rw [HX.out]
                    have hz2 : wr.heap.size < w2.heap.size := by have := hG2.size; simp at this; omega
                    have k0 : w2.cell? ⟨wr.heap.size, 0, none⟩ = some (.int .i64 1) := hG2.cell (a := ⟨wr.heap.size, 0, none⟩) (by go_simp) (by simp; omega)
                    have k1 : w2.cell? ⟨wr.heap.size, 1, none⟩ = some (.int .i64 core) := hG2.cell (a := ⟨wr.heap.size, 1, none⟩) (by go_simp) (by simp; omega)
                    have k2 : w2.cell? ⟨wr.heap.size, 2, none⟩ = some (.int .i64 l) := hG2.cell (a := ⟨wr.heap.size, 2, none⟩) (by go_simp) (by simp; omega)
                    have hB2 : Below w.heap.size w w2 := below_grown (hB.alloc hB.size _) hG2 (by have := hB.size; simp; omega) (Nat.le_refl _)
                    have HB2 := Lib.hid hB2; clear hB2 hG2
                    go_wp2_with fail
                    refine (owner_any _ _ _ _ hA2 hdo).mono ?_
                    rintro e3 w3 ⟨rfl, rfl⟩
                    rw [HO.out, HL.out]
                    go_wp2_with fail
                    go_roundw
                    case rel => exact ⟨m + 1, _, owner, by omega, by go_num, rfl, by omega, by omega, HS.out, HN.out, hdo, hA2, HB2.out, by omega⟩
                    case measure => simp [intOf]; omega
                · have hk1 : (kind == 1) = false := by rw [beq_eq_false_iff_ne]; exact h1'
                  by_cases h3' : kind = 3
                  · subst h3'
                    rcases step3 ok core l m0 hmn owner hown x e hx with ⟨hs', rfl, rfl⟩ | ⟨hs', ⟨rfl, hne⟩ | hne⟩
                    · have hs' : _ = (-1 : Int) + 1 := hs'
                      have HO := Lib.hid (owner_in (k := (doR k 3 owner l).1) (m := m0) (o := (-1)) (by rw [hdn]; omega) hs')
                      have HL := Lib.hid (lock_in (k := (doR k 3 owner l).1) (m := m0) (by rw [hdn]; omega))
                      have HS := Lib.hid hs'; clear hs'
                      have HX := Lib.hid hx; clear hx
                      have HN := Lib.hid hdn; clear hdn
                      have HK := Lib.hid hkn; clear hkn
                      have HW := Lib.hid hown; clear hown
                      go_wp2_with fail
                      refine (do_any _ _ _ _ k _ (hA.alloc _) ok).mono ?_
                      rintro e2 w2 ⟨rfl, hA2, hG2⟩
                      rw [HX.out]
                      have hz2 : wr.heap.size < w2.heap.size := by have := hG2.size; simp at this; omega
                      have k0 : w2.cell? ⟨wr.heap.size, 0, none⟩ = some (.int .i64 3) := hG2.cell (a := ⟨wr.heap.size, 0, none⟩) (by go_simp) (by simp; omega)
                      have k1 : w2.cell? ⟨wr.heap.size, 1, none⟩ = some (.int .i64 owner) := hG2.cell (a := ⟨wr.heap.size, 1, none⟩) (by go_simp) (by simp; omega)
                      have k2 : w2.cell? ⟨wr.heap.size, 2, none⟩ = some (.int .i64 l) := hG2.cell (a := ⟨wr.heap.size, 2, none⟩) (by go_simp) (by simp; omega)
                      have hB2 : Below w.heap.size w w2 := below_grown (hB.alloc hB.size _) hG2 (by have := hB.size; simp; omega) (Nat.le_refl _)
                      have HB2 := Lib.hid hB2; clear hB2 hG2
                      go_wp2_with fail
                      refine (owner_any _ _ _ _ hA2 hdo).mono ?_
                      rintro e3 w3 ⟨rfl, rfl⟩
                      rw [HO.out, HL.out]
                      go_wp2_with fail
                      go_roundw
                      case rel => exact ⟨m + 1, _, (-1), by omega, by go_num, rfl, by omega, by omega, HS.out, HN.out, hdo, hA2, HB2.out, by omega⟩
                      case measure => simp [intOf]; omega
                    · have hb1 : (owner == core) = false := by rw [beq_eq_false_iff_ne]; exact hne
                      clear hne
                      have HO := Lib.hid (owner_in (k := (doR k 3 core l).1) (m := m0) (o := owner) (by rw [hdn]; omega) hs')
                      have HL := Lib.hid (lock_in (k := (doR k 3 core l).1) (m := m0) (by rw [hdn]; omega))
                      have HS := Lib.hid hs'; clear hs'
                      have HX := Lib.hid hx; clear hx
                      have HN := Lib.hid hdn; clear hdn
                      have HK := Lib.hid hkn; clear hkn
                      have HW := Lib.hid hown; clear hown
                      go_wp2_with fail
                      refine (do_any _ _ _ _ k _ (hA.alloc _) ok).mono ?_
                      rintro e2 w2 ⟨rfl, hA2, hG2⟩
                      rw [HX.out]
                      have hz2 : wr.heap.size < w2.heap.size := by have := hG2.size; simp at this; omega
                      have k0 : w2.cell? ⟨wr.heap.size, 0, none⟩ = some (.int .i64 3) := hG2.cell (a := ⟨wr.heap.size, 0, none⟩) (by go_simp) (by simp; omega)
                      have k1 : w2.cell? ⟨wr.heap.size, 1, none⟩ = some (.int .i64 core) := hG2.cell (a := ⟨wr.heap.size, 1, none⟩) (by go_simp) (by simp; omega)
                      have k2 : w2.cell? ⟨wr.heap.size, 2, none⟩ = some (.int .i64 l) := hG2.cell (a := ⟨wr.heap.size, 2, none⟩) (by go_simp) (by simp; omega)
                      have hB2 : Below w.heap.size w w2 := below_grown (hB.alloc hB.size _) hG2 (by have := hB.size; simp; omega) (Nat.le_refl _)
                      have HB2 := Lib.hid hB2; clear hB2 hG2
                      go_wp2_with fail
                      refine (owner_any _ _ _ _ hA2 hdo).mono ?_
                      rintro e3 w3 ⟨rfl, rfl⟩
                      rw [HO.out, HL.out]
                      go_wp2_with fail
                      go_roundw
                      case rel => exact ⟨m + 1, _, owner, by omega, by go_num, rfl, by omega, by omega, HS.out, HN.out, hdo, hA2, HB2.out, by omega⟩
                      case measure => simp [intOf]; omega
                    · have hb1 : (e == 0) = false := by rw [beq_eq_false_iff_ne]; exact hne
                      clear hne
                      have HO := Lib.hid (owner_in (k := (doR k 3 core l).1) (m := m0) (o := owner) (by rw [hdn]; omega) hs')
                      have HL := Lib.hid (lock_in (k := (doR k 3 core l).1) (m := m0) (by rw [hdn]; omega))
                      have HS := Lib.hid hs'; clear hs'
                      have HX := Lib.hid hx; clear hx
                      have HN := Lib.hid hdn; clear hdn
                      have HK := Lib.hid hkn; clear hkn
                      have HW := Lib.hid hown; clear hown
                      go_wp2_with fail
                      refine (do_any _ _ _ _ k _ (hA.alloc _) ok).mono ?_
                      rintro e2 w2 ⟨rfl, hA2, hG2⟩
                      rw [HX.out]
                      have hz2 : wr.heap.size < w2.heap.size := by have := hG2.size; simp at this; omega
                      have k0 : w2.cell? ⟨wr.heap.size, 0, none⟩ = some (.int .i64 3) := hG2.cell (a := ⟨wr.heap.size, 0, none⟩) (by go_simp) (by simp; omega)
                      have k1 : w2.cell? ⟨wr.heap.size, 1, none⟩ = some (.int .i64 core) := hG2.cell (a := ⟨wr.heap.size, 1, none⟩) (by go_simp) (by simp; omega)
                      have k2 : w2.cell? ⟨wr.heap.size, 2, none⟩ = some (.int .i64 l) := hG2.cell (a := ⟨wr.heap.size, 2, none⟩) (by go_simp) (by simp; omega)
                      have hB2 : Below w.heap.size w w2 := below_grown (hB.alloc hB.size _) hG2 (by have := hB.size; simp; omega) (Nat.le_refl _)
                      have HB2 := Lib.hid hB2; clear hB2 hG2
                      go_wp2_with fail
                      refine (owner_any _ _ _ _ hA2 hdo).mono ?_
                      rintro e3 w3 ⟨rfl, rfl⟩
                      rw [HO.out, HL.out]
                      go_wp2_with fail
                      go_roundw
                      case rel => exact ⟨m + 1, _, owner, by omega, by go_num, rfl, by omega, by omega, HS.out, HN.out, hdo, hA2, HB2.out, by omega⟩
                      case measure => simp [intOf]; omega
                  · have hk3 : (kind == 3) = false := by rw [beq_eq_false_iff_ne]; exact h3'
                    have hs' := stepx kind core l m0 owner hown h0 h1' h3'
                    clear h0 h1' h3'
                    have HO := Lib.hid (owner_in (k := (doR k kind core l).1) (m := m0) (o := owner) (by rw [hdn]; omega) hs')
                    have HL := Lib.hid (lock_in (k := (doR k kind core l).1) (m := m0) (by rw [hdn]; omega))
                    have HS := Lib.hid hs'; clear hs'
                    have HX := Lib.hid hx; clear hx
                    have HN := Lib.hid hdn; clear hdn
                    have HK := Lib.hid hkn; clear hkn
                    have HW := Lib.hid hown; clear hown
                    go_wp2_with fail
                    refine (do_any _ _ _ _ k _ (hA.alloc _) ok).mono ?_
                    rintro e2 w2 ⟨rfl, hA2, hG2⟩
                    rw [HX.out]
                    have hz2 : wr.heap.size < w2.heap.size := by have := hG2.size; simp at this; omega
                    have k0 : w2.cell? ⟨wr.heap.size, 0, none⟩ = some (.int .i64 kind) := hG2.cell (a := ⟨wr.heap.size, 0, none⟩) (by go_simp) (by simp; omega)
                    have k1 : w2.cell? ⟨wr.heap.size, 1, none⟩ = some (.int .i64 core) := hG2.cell (a := ⟨wr.heap.size, 1, none⟩) (by go_simp) (by simp; omega)
                    have k2 : w2.cell? ⟨wr.heap.size, 2, none⟩ = some (.int .i64 l) := hG2.cell (a := ⟨wr.heap.size, 2, none⟩) (by go_simp) (by simp; omega)
                    have hB2 : Below w.heap.size w w2 := below_grown (hB.alloc hB.size _) hG2 (by have := hB.size; simp; omega) (Nat.le_refl _)
                    have HB2 := Lib.hid hB2; clear hB2 hG2
                    go_wp2_with fail
                    refine (owner_any _ _ _ _ hA2 hdo).mono ?_
                    rintro e3 w3 ⟨rfl, rfl⟩
                    rw [HO.out, HL.out]
                    go_wp2_with fail
                    go_roundw
                    case rel => exact ⟨m + 1, _, owner, by omega, by go_num, rfl, by omega, by omega, HS.out, HN.out, hdo, hA2, HB2.out, by omega⟩
                    case measure => simp [intOf]; omega
            · have hml : m = len := by omega
              subst hml
              clear hown
              go_wp2_with fail
              refine (alive_any _).mono ?_
              rintro e w' ⟨rfl, hBa⟩
              have hBt : Below w.heap.size w w' := hB.trans (hBa.mono (by omega))
              clear hBa
              go_wp2_with fail
              go_ret
              exact ⟨rfl, hBt⟩
  · go_enter Try.func3, Try.ntmps3
    go_wp2_with fail
    refine (new_no c n _ hn).mono ?_
    rintro e w1 ⟨rfl, rfl⟩
    have heq := eq_nil
    go_wp2_with fail
    refine (alive_any _).mono ?_
    rintro e w' ⟨rfl, hBa⟩
    have hBt : Below w.heap.size w w' := hBa
    clear hBa
    go_wp2_with fail
    go_ret
    exact ⟨rfl, hBt⟩

end Go.Proofs.Ytloifnnofldgmaa.Locks
