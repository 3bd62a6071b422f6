/- Locks: how a bank lies in memory, and what its small methods tell: the contracts of core, lock, both, Len, Owner. -/
import Derived.Test.YtloifnnofldgmaaProg
import Derived.WalkKit
import Derived.WalkSpells
import Derived.Deep.Draws
import Derived.Deep.QuietTactic
import Derived.BigQuiet
import Derived.Deep.RegionHeld3
import Derived.Deep.DrawnRows
import Derived.Deep.DeepCutAuto
import Derived.Lib.Hide
import Derived.Outline
import Derived.KernelRfl
namespace Go.Proofs.Ytloifnnofldgmaa.Locks
set_option linter.unusedVariables false
set_option linter.unusedSimpArgs false
open Go.RowKit

theorem _root_.Go.World.grownBy_self (w : World) (row : Option Nat) : w.grownBy w row := ⟨rfl, rfl, rfl, Nat.le_refl _, fun _ _ _ => rfl⟩
theorem _root_.Go.World.grownBy_set (w : World) (a : Addr) (v : Value) : w.grownBy (w.setCell a v) (some a.block) :=
  ⟨rfl, rfl, rfl, by simp [World.setCell], fun k _ hn => Below.heap_setCell _ _ _ _ (by simpa using hn)⟩

/-- A bank of locks. -/
structure Bk where
  cores : Int
  n : Int
  own : List Int

def Bk.cells (k : Bk) : List Value := .int .i64 k.cores :: .int .i64 k.n :: k.own.map (.int .i64)

/-- What is right of a bank. -/
structure Bk.Ok (k : Bk) : Prop where
  c0 : 1 ≤ k.cores
  c1 : k.cores ≤ 8
  n0 : 1 ≤ k.n
  n1 : k.n ≤ 16
  len : k.own.length = 16
  rng : ∀ x ∈ k.own, 0 ≤ x ∧ x ≤ 8

/-- The bank k lies in block b. -/
def At (w : World) (b : Nat) (k : Bk) : Prop := w.heap[b]? = some (.cells k.cells.toArray 51 (0, 0))

theorem At.cell {w : World} {b : Nat} {k : Bk} (h : At w b k) (j : Nat) : w.cell? ⟨b, j, none⟩ = k.cells[j]? := by
  unfold At at h
  simp [World.cell?, h]
theorem At.cores {w : World} {b : Nat} {k : Bk} (h : At w b k) : w.cell? ⟨b, 0, none⟩ = some (.int .i64 k.cores) := by rw [h.cell]; rfl
theorem At.n {w : World} {b : Nat} {k : Bk} (h : At w b k) : w.cell? ⟨b, 1, none⟩ = some (.int .i64 k.n) := by rw [h.cell]; rfl
theorem At.own {w : World} {b : Nat} {k : Bk} (h : At w b k) (j : Nat) (hj : j < k.own.length) : w.cell? ⟨b, 2 + j, none⟩ = some (.int .i64 (k.own.getD j 0)) := by
  rw [h.cell, Nat.add_comm]
  simp [Bk.cells, hj]
theorem At.free {w : World} {b : Nat} {k : Bk} (h : At w b k) (j : Nat) : w.frozen? ⟨b, j, none⟩ = false := by
  unfold At at h
  simp [World.frozen?, h]
theorem At.drewN {w : World} {b : Nat} {k : Bk} (h : At w b k) (n : Nat) : At (w.drewN n) b k := h

theorem Bk.Ok.get {k : Bk} (ok : k.Ok) (j : Nat) (hj : j < 16) : 0 ≤ k.own.getD j 0 ∧ k.own.getD j 0 ≤ 8 := by
  have hl := ok.len
  have e : k.own.getD j 0 = k.own[j]'(by omega) := by simp [List.getD_eq_getElem?_getD, hl, hj]
  rw [e]
  exact ok.rng _ (List.getElem_mem _)

def Bk.put (k : Bk) (j : Nat) (x : Int) : Bk := { k with own := k.own.set j x }

theorem Bk.Ok.put {k : Bk} (ok : k.Ok) (j : Nat) (x : Int) (h0 : 0 ≤ x) (h8 : x ≤ 8) : (k.put j x).Ok :=
  ⟨ok.c0, ok.c1, ok.n0, ok.n1, by simp [Bk.put, ok.len], fun y hy => by
    rcases List.mem_or_eq_of_mem_set hy with h | h
    · exact ok.rng y h
    · omega⟩

theorem At.put {w : World} {b : Nat} {k : Bk} (h : At w b k) (j : Nat) (x : Int) : At (w.setCell ⟨b, 2 + j, none⟩ (.int .i64 x)) b (k.put j x) := by
  unfold At at *
  have hb : b < w.heap.size := lt_of_block h
  simp only [World.setCell, Array.getElem?_modify, h, Option.map_some, if_true]
  simp [Bk.cells, Bk.put, Nat.add_comm 2 j, List.map_set]

/-- Which error (0: none) the number of a core makes. -/
def coreE (cores c : Int) : Int := if 0 ≤ c ∧ c < cores then 0 else 3
def lockE (n i : Int) : Int := if 0 ≤ i ∧ i < n then 0 else 2
def bothE (k : Bk) (c i : Int) : Int := if coreE k.cores c = 0 then lockE k.n i else coreE k.cores c

set_option maxHeartbeats 400000 in
theorem core_any (b : Nat) (c cores : Int) (w : World) (h0 : w.cell? ⟨b, 0, none⟩ = some (.int .i64 cores)) :
    Calls Try.prog 25 #[.pointer (some ⟨b, 0, none⟩), .int .i64 c] w fun e w' => e = .returned (.int .i64 (coreE cores c)) ∧ w = w' := by
  unfold coreE
  by_cases hc : c < 0
  · rw [if_neg (by omega)]
    go_enter Try.func25, Try.ntmps25
    go_wp2_with fail
    go_ret
    exact ⟨rfl, rfl⟩
  · by_cases hc2 : cores ≤ c
    · rw [if_neg (by omega)]
      go_enter Try.func25, Try.ntmps25
      go_wp2_with fail
      go_ret
      exact ⟨rfl, rfl⟩
    · rw [if_pos (by omega)]
      go_enter Try.func25, Try.ntmps25
      go_wp2_with fail
      go_ret
      exact ⟨rfl, rfl⟩

set_option maxHeartbeats 400000 in
theorem core_nil (c : Int) (w : World) :
    Calls Try.prog 25 #[.pointer none, .int .i64 c] w fun e w' => e = .returned (.int .i64 1) ∧ w = w' := by
  go_enter Try.func25, Try.ntmps25
  go_wp2_with fail
  go_ret
  exact ⟨rfl, rfl⟩

set_option maxHeartbeats 400000 in
theorem lock_any (b : Nat) (i n : Int) (w : World) (h0 : w.cell? ⟨b, 1, none⟩ = some (.int .i64 n)) :
    Calls Try.prog 22 #[.pointer (some ⟨b, 0, none⟩), .int .i64 i] w fun e w' => e = .returned (.int .i64 (lockE n i)) ∧ w = w' := by
  unfold lockE
  by_cases hc : i < 0
  · rw [if_neg (by omega)]
    go_enter Try.func22, Try.ntmps22
    go_wp2_with fail
    go_ret
    exact ⟨rfl, rfl⟩
  · by_cases hc2 : n ≤ i
    · rw [if_neg (by omega)]
      go_enter Try.func22, Try.ntmps22
      go_wp2_with fail
      go_ret
      exact ⟨rfl, rfl⟩
    · rw [if_pos (by omega)]
      go_enter Try.func22, Try.ntmps22
      go_wp2_with fail
      go_ret
      exact ⟨rfl, rfl⟩

set_option maxHeartbeats 400000 in
theorem lock_nil (i : Int) (w : World) :
    Calls Try.prog 22 #[.pointer none, .int .i64 i] w fun e w' => e = .returned (.int .i64 1) ∧ w = w' := by
  go_enter Try.func22, Try.ntmps22
  go_wp2_with fail
  go_ret
  exact ⟨rfl, rfl⟩

set_option maxHeartbeats 400000 in
theorem both_any (b : Nat) (c i cores n : Int) (w : World) (h0 : w.cell? ⟨b, 0, none⟩ = some (.int .i64 cores)) (h1 : w.cell? ⟨b, 1, none⟩ = some (.int .i64 n)) :
    Calls Try.prog 26 #[.pointer (some ⟨b, 0, none⟩), .int .i64 c, .int .i64 i] w fun e w' => e = .returned (.int .i64 (if coreE cores c = 0 then lockE n i else coreE cores c)) ∧ w = w' := by
  by_cases hc : coreE cores c = 0
  · rw [if_pos hc]
    have hb : (coreE cores c != 0) = false := by rw [hc]; rfl
    have Hc := Lib.hid hc; clear hc
    go_enter Try.func26, Try.ntmps26
    go_wp2_with fail
    refine (core_any b c cores _ h0).mono ?_
    rintro e w' ⟨rfl, rfl⟩
    go_wp2_with fail
    refine (lock_any b i n _ h1).mono ?_
    rintro e w' ⟨rfl, rfl⟩
    go_wp2_with fail
    go_ret
    exact ⟨rfl, rfl⟩
  · rw [if_neg hc]
    have hb : (coreE cores c != 0) = true := by rw [bne_iff_ne]; exact hc
    have Hc := Lib.hid hc; clear hc
    go_enter Try.func26, Try.ntmps26
    go_wp2_with fail
    refine (core_any b c cores _ h0).mono ?_
    rintro e w' ⟨rfl, rfl⟩
    go_wp2_with fail
    go_ret
    exact ⟨rfl, rfl⟩

set_option maxHeartbeats 400000 in
theorem both_nil (c i : Int) (w : World) :
    Calls Try.prog 26 #[.pointer none, .int .i64 c, .int .i64 i] w fun e w' => e = .returned (.int .i64 1) ∧ w = w' := by
  go_enter Try.func26, Try.ntmps26
  go_wp2_with fail
  refine (core_nil c _).mono ?_
  rintro e w' ⟨rfl, rfl⟩
  go_wp2_with fail
  go_ret
  exact ⟨rfl, rfl⟩

set_option maxHeartbeats 400000 in
theorem len_any (b : Nat) (n : Int) (w : World) (h1 : w.cell? ⟨b, 1, none⟩ = some (.int .i64 n)) :
    Calls Try.prog 7 #[.pointer (some ⟨b, 0, none⟩)] w fun e w' => e = .returned (.int .i64 n) ∧ w = w' := by
  go_enter Try.func7, Try.ntmps7
  go_wp2_with fail
  go_ret
  exact ⟨rfl, rfl⟩

set_option maxHeartbeats 400000 in
theorem len_nil (w : World) :
    Calls Try.prog 7 #[.pointer none] w fun e w' => e = .returned (.int .i64 0) ∧ w = w' := by
  go_enter Try.func7, Try.ntmps7
  go_wp2_with fail
  go_ret
  exact ⟨rfl, rfl⟩

/-- What Owner tells. -/
def ownerR (k : Bk) (i : Int) : Int := if lockE k.n i = 0 then k.own.getD i.toNat 0 - 1 else 0

set_option maxHeartbeats 400000 in
theorem owner_any (b : Nat) (i : Int) (k : Bk) (w : World) (h : At w b k) (ok : k.Ok) :
    Calls Try.prog 10 #[.pointer (some ⟨b, 0, none⟩), .int .i64 i] w fun e w' => e = .returned (.tuple #[.int .i64 (ownerR k i), .int .i64 (lockE k.n i)]) ∧ w = w' := by
  have h1 := h.n
  unfold ownerR
  by_cases hc : lockE k.n i = 0
  · rw [if_pos hc, hc]
    have hr : 0 ≤ i ∧ i < k.n := by unfold lockE at hc; by_cases q : 0 ≤ i ∧ i < k.n; exact q; rw [if_neg q] at hc; omega
    obtain ⟨h0, hlt⟩ := hr
    obtain ⟨j, rfl⟩ := Int.eq_ofNat_of_zero_le h0
    have hn := ok.n1
    have hl := ok.len
    have hj : j < 16 := by omega
    have hi := h.own j (by omega)
    rw [Int.toNat_natCast]
    have hx := ok.get j hj
    have hx0 := hx.1
    have hx1 := hx.2
    generalize k.own.getD j 0 = x at *
    have hb : (lockE k.n (j : Int) != 0) = false := by rw [hc]; rfl
    have Hc := Lib.hid hc; clear hc hl hx
    go_enter Try.func10, Try.ntmps10
    go_wp2_with fail
    refine (lock_any b (j : Int) k.n _ h1).mono ?_
    rintro e w' ⟨rfl, rfl⟩
    go_wp2_with fail
    go_ret2
    exact ⟨rfl, rfl⟩
  · rw [if_neg hc]
    have hb : (lockE k.n i != 0) = true := by rw [bne_iff_ne]; exact hc
    have Hc := Lib.hid hc; clear hc
    go_enter Try.func10, Try.ntmps10
    go_wp2_with fail
    refine (lock_any b i k.n _ h1).mono ?_
    rintro e w' ⟨rfl, rfl⟩
    go_wp2_with fail
    go_ret2
    exact ⟨rfl, rfl⟩

/-- What both tells at a core and a lock that are there. -/
theorem both_in {k : Bk} {c i : Int} (h : bothE k c i = 0) : 0 ≤ c ∧ c < k.cores ∧ 0 ≤ i ∧ i < k.n := by
  unfold bothE coreE lockE at h
  by_cases h1 : 0 ≤ c ∧ c < k.cores
  · rw [if_pos h1] at h
    by_cases h2 : 0 ≤ i ∧ i < k.n
    · exact ⟨h1.1, h1.2, h2.1, h2.2⟩
    · simp [h2] at h
  · simp [h1] at h

/-- What Try tells: (the bank, got it, the error). -/
def tryR (k : Bk) (c i : Int) : Bk × Bool × Int :=
  if bothE k c i = 0 then (if k.own.getD i.toNat 0 = 0 then (k.put i.toNat (c + 1), true, 0) else (k, false, 0)) else (k, false, bothE k c i)

set_option maxHeartbeats 400000 in
theorem try_any (b : Nat) (c i : Int) (k : Bk) (w : World) (h : At w b k) (ok : k.Ok) :
    Calls Try.prog 19 #[.pointer (some ⟨b, 0, none⟩), .int .i64 c, .int .i64 i] w fun e w' => e = .returned (.tuple #[.bool (tryR k c i).2.1, .int .i64 (tryR k c i).2.2]) ∧ At w' b (tryR k c i).1 ∧ w.grownBy w' (some b) := by
  have h0 := h.cores
  have h1 := h.n
  unfold tryR
  by_cases hc : bothE k c i = 0
  · rw [if_pos hc]
    obtain ⟨hc0, hc1, hi0, hi1⟩ := both_in hc
    obtain ⟨j, rfl⟩ := Int.eq_ofNat_of_zero_le hi0
    have hn := ok.n1
    have hn8 := ok.c1
    have hl := ok.len
    have hj : j < 16 := by omega
    have hi := h.own j (by omega)
    have hf := h.free (2 + j)
    rw [Int.toNat_natCast]
    have hA : At (w.setCell ⟨b, 2 + j, none⟩ (.int .i64 (c + 1))) b (k.put j (c + 1)) := h.put j (c + 1)
    by_cases hx : k.own.getD j 0 = 0
    · rw [if_pos hx]
      rw [hx] at hi
      have hb : (bothE k c (j : Int) != 0) = false := by rw [hc]; rfl
      have HA := Lib.hid hA; clear hA
      unfold bothE at hb hc
      have Hc := Lib.hid hc; clear hc hl hx
      go_enter Try.func19, Try.ntmps19
      go_wp2_with fail
      refine (both_any b c (j : Int) k.cores k.n _ h0 h1).mono ?_
      rintro e w' ⟨rfl, rfl⟩
      rw [Hc.out]
      go_wp2_with fail
      go_ret2
      exact ⟨rfl, HA.out, World.grownBy_set _ _ _⟩
    · rw [if_neg hx]
      have hb2 : (k.own.getD j 0 != 0) = true := by rw [bne_iff_ne]; exact hx
      generalize k.own.getD j 0 = x at *
      unfold bothE at hc
      have Hc := Lib.hid hc; clear hc hl hx hA
      go_enter Try.func19, Try.ntmps19
      go_wp2_with fail
      refine (both_any b c (j : Int) k.cores k.n _ h0 h1).mono ?_
      rintro e w' ⟨rfl, rfl⟩
      rw [Hc.out]
      go_wp2_with fail
      go_ret2
      exact ⟨rfl, h, World.grownBy_self _ _⟩
  · rw [if_neg hc]
    have hb : (bothE k c i != 0) = true := by rw [bne_iff_ne]; exact hc
    have HB : Calls Try.prog 26 #[.pointer (some ⟨b, 0, none⟩), .int .i64 c, .int .i64 i] w fun e w' => e = .returned (.int .i64 (bothE k c i)) ∧ w = w' := both_any b c i k.cores k.n w h0 h1
    have Hc := Lib.hid hc; clear hc
    have HB := Lib.hid HB
    generalize bothE k c i = x at *
    go_enter Try.func19, Try.ntmps19
    go_wp2_with fail
    refine HB.out.mono ?_
    rintro e w' ⟨rfl, rfl⟩
    go_wp2_with fail
    go_ret2
    exact ⟨rfl, h, World.grownBy_self _ _⟩

end Go.Proofs.Ytloifnnofldgmaa.Locks
