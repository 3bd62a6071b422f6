/- Grant: how a table lies in memory, and what its small methods tell: the contracts of wrap.Add, Len, Give, Slot, Drop. -/
import Derived.Test.YtgkjiemjghmgmaaProg
import Derived.WalkKit
import Derived.WalkSpells
import Derived.WalkSmall
import Derived.Deep.Draws
import Derived.Deep.QuietTactic
import Derived.BigQuiet
import Derived.Deep.RegionHeld3
import Derived.Deep.DrawnRows
import Derived.Deep.DeepCutAuto
import Derived.StillTailTactics
import Derived.Laws.BitsLemmas
import Derived.Lib.Hide
import Derived.Outline
import Derived.KernelRfl
namespace Go.Proofs.Ytgkjiemjghmgmaa.Grants
set_option linter.unusedVariables false
set_option linter.unusedSimpArgs false
open Go.RowKit

theorem grown_self (w : World) (row : Option Nat) : w.grownBy w row := ⟨rfl, rfl, rfl, Nat.le_refl _, fun _ _ _ => rfl⟩
theorem grown_set (w : World) (a : Addr) (v : Value) : w.grownBy (w.setCell a v) (some a.block) :=
  ⟨rfl, rfl, rfl, by simp [World.setCell], fun k _ hn => Below.heap_setCell _ _ _ _ (by simpa using hn)⟩
theorem grown_trans {a b c : World} {row : Option Nat} (h : a.grownBy b row) (g : b.grownBy c row) : a.grownBy c row :=
  ⟨g.os.trans h.os, g.tape.trans h.tape, g.output.trans h.output, Nat.le_trans h.size g.size, fun k hk hn => (g.block k (Nat.lt_of_lt_of_le hk h.size) hn).trans (h.block k hk hn)⟩
theorem grown_drewN {a b : World} {row : Option Nat} (h : a.grownBy b row) (n : Nat) : a.grownBy (b.drewN n) row := ⟨h.os, h.tape, h.output, h.size, h.block⟩
theorem grown_drew {a b : World} {row : Option Nat} (h : a.grownBy b row) : a.grownBy b.drew row := ⟨h.os, h.tape, h.output, h.size, h.block⟩
theorem below_grown {B b : Nat} {a w w' : World} (h : Below B a w) (hg : w.grownBy w' (some b)) (hB : B ≤ w.heap.size) (hb : B ≤ b) : Below B a w' :=
  h.grown hg hB (fun k hk => by simp at hk; omega)

theorem and63 (n : Int) : bits .and .i64 n 63 = n % 64 := by
  have hm : (BitVec.ofInt 64 63).toNat = 2 ^ 6 - 1 := by decide
  have key : (BitVec.ofInt 64 n &&& BitVec.ofInt 64 63).toNat = (n % ((2 ^ 64 : Nat) : Int)).toNat % 2 ^ 6 := by
    rw [BitVec.toNat_and, BitVec.toNat_ofInt, hm, Nat.and_two_pow_sub_one_eq_mod]
  show IntKind.i64.wrap ((BitVec.ofInt 64 n &&& BitVec.ofInt 64 63).toNat : Nat) = n % 64
  rw [key, IntKind.wrap_i64]
  omega

theorem and65535 (n : Int) : bits .and .i64 n 65535 = n % 65536 := by
  have hm : (BitVec.ofInt 64 65535).toNat = 2 ^ 16 - 1 := by decide
  have key : (BitVec.ofInt 64 n &&& BitVec.ofInt 64 65535).toNat = (n % ((2 ^ 64 : Nat) : Int)).toNat % 2 ^ 16 := by
    rw [BitVec.toNat_and, BitVec.toNat_ofInt, hm, Nat.and_two_pow_sub_one_eq_mod]
  show IntKind.i64.wrap ((BitVec.ofInt 64 n &&& BitVec.ofInt 64 65535).toNat : Nat) = n % 65536
  rw [key, IntKind.wrap_i64]
  omega

theorem word_any (x : Int) (w : World) :
    Calls Try.prog 26 #[.int .i64 x] w fun e w' => e = .returned (.int .i64 (x % 65536)) ∧ w = w' := by
  have h := Lib.hid (and65535 x)
  go_enter Try.func26, Try.ntmps26
  go_wp2_with fail
  go_ret
  rw [h.out]
  exact ⟨rfl, rfl⟩

theorem add_any (x y : Int) (w : World) :
    Calls Try.prog 21 #[.int .i64 x, .int .i64 y] w fun e w' => e = .returned (.int .i64 ((x + y) % 65536)) ∧ w = w' := by
  go_enter Try.func21, Try.ntmps21
  go_wp2_with fail
  refine (word_any x _).mono ?_
  rintro e w' ⟨rfl, rfl⟩
  go_wp2_with fail
  refine (word_any y _).mono ?_
  rintro e w' ⟨rfl, rfl⟩
  go_wp2_with fail
  refine (word_any _ _).mono ?_
  rintro e w' ⟨rfl, rfl⟩
  go_wp2_with fail
  go_ret
  exact ⟨rfl, rfl⟩

/-- A table of handles. -/
structure Tb where
  n : Int
  gens : List Int
  held : List Bool

def Tb.cells (k : Tb) : List Value := .int .i64 k.n :: (k.gens.map (Value.int .i64) ++ k.held.map Value.bool)

/-- What is right of a table. -/
structure Tb.Ok (k : Tb) : Prop where
  n0 : 1 ≤ k.n
  n1 : k.n ≤ 64
  lg : k.gens.length = 64
  lh : k.held.length = 64
  rng : ∀ x ∈ k.gens, 0 ≤ x ∧ x ≤ 65535

def At (w : World) (b : Nat) (k : Tb) : Prop := w.heap[b]? = some (.cells k.cells.toArray 53 (0, 0))

theorem At.cell {w : World} {b : Nat} {k : Tb} (h : At w b k) (j : Nat) : w.cell? ⟨b, j, none⟩ = k.cells[j]? := by
  unfold At at h
  simp [World.cell?, h]
theorem At.n {w : World} {b : Nat} {k : Tb} (h : At w b k) : w.cell? ⟨b, 0, none⟩ = some (.int .i64 k.n) := by rw [h.cell]; rfl
theorem At.gen {w : World} {b : Nat} {k : Tb} (h : At w b k) (ok : k.Ok) (j : Nat) (hj : j < 64) : w.cell? ⟨b, 1 + j, none⟩ = some (.int .i64 (k.gens.getD j 0)) := by
  have hl := ok.lg
  rw [h.cell, Nat.add_comm]
  show (k.gens.map (Value.int .i64) ++ k.held.map Value.bool)[j]? = _
  rw [List.getElem?_append_left (by simp; omega)]
  simp [hl, hj]
theorem At.up {w : World} {b : Nat} {k : Tb} (h : At w b k) (ok : k.Ok) (j : Nat) (hj : j < 64) : w.cell? ⟨b, 65 + j, none⟩ = some (.bool (k.held.getD j false)) := by
  have hl := ok.lg
  have hh := ok.lh
  rw [h.cell, show 65 + j = (64 + j) + 1 by omega]
  show (k.gens.map (Value.int .i64) ++ k.held.map Value.bool)[64 + j]? = _
  rw [List.getElem?_append_right (by simp; omega)]
  simp [hl, hh, hj]
theorem At.free {w : World} {b : Nat} {k : Tb} (h : At w b k) (j : Nat) : w.frozen? ⟨b, j, none⟩ = false := by
  unfold At at h
  simp [World.frozen?, h]
theorem At.drew {w : World} {b : Nat} {k : Tb} (h : At w b k) : At w.drew b k := h
theorem At.alloc {w : World} {b : Nat} {k : Tb} (h : At w b k) (o : Obj) : At (w.alloc o) b k := by
  unfold At at *
  rw [heap_alloc_old _ _ (lt_of_block h)]; exact h

theorem Tb.Ok.get {k : Tb} (ok : k.Ok) (j : Nat) (hj : j < 64) : 0 ≤ k.gens.getD j 0 ∧ k.gens.getD j 0 ≤ 65535 := by
  have hl := ok.lg
  have e : k.gens.getD j 0 = k.gens[j]'(by omega) := by simp [List.getD_eq_getElem?_getD, hl, hj]
  rw [e]
  exact ok.rng _ (List.getElem_mem _)

def Tb.hold (k : Tb) (j : Nat) (x : Bool) : Tb := { k with held := k.held.set j x }
def Tb.gen (k : Tb) (j : Nat) (x : Int) : Tb := { k with gens := k.gens.set j x }

theorem Tb.Ok.hold {k : Tb} (ok : k.Ok) (j : Nat) (x : Bool) : (k.hold j x).Ok := ⟨ok.n0, ok.n1, ok.lg, by simp [Tb.hold, ok.lh], ok.rng⟩
theorem Tb.Ok.gen {k : Tb} (ok : k.Ok) (j : Nat) (x : Int) (h0 : 0 ≤ x) (h1 : x ≤ 65535) : (k.gen j x).Ok := ⟨ok.n0, ok.n1, by simp [Tb.gen, ok.lg], ok.lh, fun y hy => by
    rcases List.mem_or_eq_of_mem_set hy with h | h
    · exact ok.rng y h
    · omega⟩

theorem At.hold {w : World} {b : Nat} {k : Tb} (h : At w b k) (ok : k.Ok) (j : Nat) (x : Bool) : At (w.setCell ⟨b, 65 + j, none⟩ (.bool x)) b (k.hold j x) := by
  have hl := ok.lg
  unfold At at *
  have hb : b < w.heap.size := lt_of_block h
  simp only [World.setCell, Array.getElem?_modify, h, Option.map_some, if_true]
  congr 2
  simp only [Tb.cells, Tb.hold, List.map_set]
  rw [show 65 + j = (64 + j) + 1 by omega]
  simp [hl]
theorem At.setGen {w : World} {b : Nat} {k : Tb} (h : At w b k) (ok : k.Ok) (j : Nat) (hj : j < 64) (x : Int) : At (w.setCell ⟨b, 1 + j, none⟩ (.int .i64 x)) b (k.gen j x) := by
  have hl := ok.lg
  unfold At at *
  have hb : b < w.heap.size := lt_of_block h
  simp only [World.setCell, Array.getElem?_modify, h, Option.map_some, if_true]
  congr 2
  simp only [Tb.cells, Tb.gen, List.map_set]
  rw [Nat.add_comm 1 j]
  simp [hl, hj, List.set_append]

theorem len_any (b : Nat) (n : Int) (w : World) (h0 : w.cell? ⟨b, 0, none⟩ = some (.int .i64 n)) :
    Calls Try.prog 14 #[.pointer (some ⟨b, 0, none⟩)] w fun e w' => e = .returned (.int .i64 n) ∧ w = w' := by
  go_enter Try.func14, Try.ntmps14
  go_wp2_with fail
  go_ret
  exact ⟨rfl, rfl⟩
theorem len_nil (w : World) :
    Calls Try.prog 14 #[.pointer none] w fun e w' => e = .returned (.int .i64 0) ∧ w = w' := by
  go_enter Try.func14, Try.ntmps14
  go_wp2_with fail
  go_ret
  exact ⟨rfl, rfl⟩

/-- What Give tells: (the table, the handle, given). -/
def giveR (k : Tb) (i : Int) : Tb × Int × Bool :=
  if 0 ≤ i ∧ i < k.n ∧ k.held.getD i.toNat false = false then ((k.gen i.toNat ((k.gens.getD i.toNat 0 + 1) % 65536)).hold i.toNat true, (k.gens.getD i.toNat 0 + 1) % 65536 * 64 + i, true) else (k, 0, false)

set_option maxHeartbeats 1000000 in
theorem give_any (b : Nat) (i : Int) (k : Tb) (w : World) (h : At w b k) (ok : k.Ok) :
    Calls Try.prog 8 #[.pointer (some ⟨b, 0, none⟩), .int .i64 i] w fun e w' => e = .returned (.tuple #[.int .i64 (giveR k i).2.1, .bool (giveR k i).2.2]) ∧ At w' b (giveR k i).1 ∧ w.grownBy w' (some b) := by
  have h0 := h.n
  unfold giveR
  by_cases hi0 : i < 0
  · rw [if_neg (by omega)]
    go_enter Try.func8, Try.ntmps8
    go_wp2_with fail
    go_ret2
    exact ⟨rfl, h, grown_self _ _⟩
  · by_cases hi1 : k.n ≤ i
    · rw [if_neg (by omega)]
      go_enter Try.func8, Try.ntmps8
      go_wp2_with fail
      refine (len_any b k.n _ h0).mono ?_
      rintro e w' ⟨rfl, rfl⟩
      go_wp2_with fail
      go_ret2
      exact ⟨rfl, h, grown_self _ _⟩
    · obtain ⟨j, rfl⟩ := Int.eq_ofNat_of_zero_le (by omega : 0 ≤ i)
      have hn1 := ok.n1
      have hj : j < 64 := by omega
      have hu := h.up ok j hj
      rw [Int.toNat_natCast]
      cases hx : k.held.getD j false
      · rw [if_pos ⟨by omega, by omega, rfl⟩]
        rw [hx] at hu
        obtain ⟨r0, r1⟩ := ok.get j hj
        have hg := h.gen ok j hj
        have hf1 := h.free (1 + j)
        have hf2 := h.free (65 + j)
        have ok1 := ok.gen j ((k.gens.getD j 0 + 1) % 65536) (by omega) (by omega)
        have hA1 := (h.setGen ok j hj ((k.gens.getD j 0 + 1) % 65536))
        have hA2 := hA1.hold ok1 j true
        have HA := Lib.hid hA2
        have HG := Lib.hid (grown_trans (grown_set w ⟨b, 1 + j, none⟩ (.int .i64 ((k.gens.getD j 0 + 1) % 65536))) (grown_set _ ⟨b, 65 + j, none⟩ (.bool true)))
        clear hA1 hA2 ok1 hx
        generalize k.gens.getD j 0 = x at *
        go_enter Try.func8, Try.ntmps8
        go_wp2_with fail
        refine (len_any b k.n _ h0).mono ?_
        rintro e w' ⟨rfl, rfl⟩
        go_wp2_with fail
        have hj0 : (0 : Int) ≤ (j : Int) := by omega
        have hj8 : (j : Int) < 64 := by omega
        go_region_with (go_at_call 21; refine (add_any x 1 _).mono ?_; rintro e w' ⟨rfl, rfl⟩)
        all_goals
          go_wp2_with fail
          go_ret2
          exact ⟨rfl, HA.out, grown_drew HG.out⟩
      · rw [if_neg (by simp)]
        rw [hx] at hu
        clear hx
        go_enter Try.func8, Try.ntmps8
        go_wp2_with fail
        refine (len_any b k.n _ h0).mono ?_
        rintro e w' ⟨rfl, rfl⟩
        go_wp2_with fail
        go_ret2
        exact ⟨rfl, h, grown_self _ _⟩

end Go.Proofs.Ytgkjiemjghmgmaa.Grants
