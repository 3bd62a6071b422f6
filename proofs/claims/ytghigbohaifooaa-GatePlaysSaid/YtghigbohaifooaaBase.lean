/- Gate: how a gate lies in memory, and what its small methods tell: the contracts of wrong, Up, Epoch, Link. -/
import Derived.Test.YtghigbohaifooaaProg
import Derived.WalkKit
import Derived.WalkSpells
import Derived.WalkSmall
import Derived.Deep.Draws
import Derived.Deep.QuietTactic
import Derived.BigQuiet
import Derived.Deep.RegionHeld3
import Derived.Deep.DrawnRows
import Derived.Deep.DeepCutAuto
import Derived.Lib.Hide
import Derived.Outline
import Derived.KernelRfl
namespace Go.Proofs.Ytghigbohaifooaa.Gates
set_option linter.unusedVariables false
set_option linter.unusedSimpArgs false
open Go.RowKit

theorem grown_self (w : World) (row : Option Nat) : w.grownBy w row := ⟨rfl, rfl, rfl, Nat.le_refl _, fun _ _ _ => rfl⟩
theorem grown_set (w : World) (a : Addr) (v : Value) : w.grownBy (w.setCell a v) (some a.block) :=
  ⟨rfl, rfl, rfl, by simp [World.setCell], fun k _ hn => Below.heap_setCell _ _ _ _ (by simpa using hn)⟩
theorem grown_trans {a b c : World} {row : Option Nat} (h : a.grownBy b row) (g : b.grownBy c row) : a.grownBy c row :=
  ⟨g.os.trans h.os, g.tape.trans h.tape, g.output.trans h.output, Nat.le_trans h.size g.size, fun k hk hn => (g.block k (Nat.lt_of_lt_of_le hk h.size) hn).trans (h.block k hk hn)⟩
theorem grown_drewN {a b : World} {row : Option Nat} (h : a.grownBy b row) (n : Nat) : a.grownBy (b.drewN n) row := ⟨h.os, h.tape, h.output, h.size, h.block⟩
theorem grown_drew {a b : World} {row : Option Nat} (h : a.grownBy b row) : a.grownBy b.drew row := ⟨h.os, h.tape, h.output, h.size, h.block⟩
theorem below_grown {B b : Nat} {a w w' : World} (h : Below B a w) (hg : w.grownBy w' (some b)) (hB : B ≤ w.heap.size) (hb : B ≤ b) : Below B a w' :=
  h.grown hg hB (fun k hk => by simp at hk; omega)

/-- A gate. -/
structure Gt where
  cores : Int
  eps : List Int
  held : List Bool

def Gt.cells (k : Gt) : List Value := .int .i64 k.cores :: (k.eps.map (Value.int .i64) ++ k.held.map Value.bool)

/-- What is right of a gate. -/
structure Gt.Ok (k : Gt) : Prop where
  c0 : 1 ≤ k.cores
  c1 : k.cores ≤ 8
  le : k.eps.length = 8
  lh : k.held.length = 8
  rng : ∀ x ∈ k.eps, 0 ≤ x ∧ x ≤ 65535

def At (w : World) (b : Nat) (k : Gt) : Prop := w.heap[b]? = some (.cells k.cells.toArray 59 (0, 0))

theorem At.cell {w : World} {b : Nat} {k : Gt} (h : At w b k) (j : Nat) : w.cell? ⟨b, j, none⟩ = k.cells[j]? := by
  unfold At at h
  simp [World.cell?, h]
theorem At.cores {w : World} {b : Nat} {k : Gt} (h : At w b k) : w.cell? ⟨b, 0, none⟩ = some (.int .i64 k.cores) := by rw [h.cell]; rfl
theorem At.ep {w : World} {b : Nat} {k : Gt} (h : At w b k) (ok : k.Ok) (j : Nat) (hj : j < 8) : w.cell? ⟨b, 1 + j, none⟩ = some (.int .i64 (k.eps.getD j 0)) := by
  have hl := ok.le
  rw [h.cell, Nat.add_comm]
  show (k.eps.map (Value.int .i64) ++ k.held.map Value.bool)[j]? = _
  rw [List.getElem?_append_left (by simp; omega)]
  simp [hl, hj]
theorem At.up {w : World} {b : Nat} {k : Gt} (h : At w b k) (ok : k.Ok) (j : Nat) (hj : j < 8) : w.cell? ⟨b, 9 + j, none⟩ = some (.bool (k.held.getD j false)) := by
  have hl := ok.le
  have hh := ok.lh
  rw [h.cell, show 9 + j = (8 + j) + 1 by omega]
  show (k.eps.map (Value.int .i64) ++ k.held.map Value.bool)[8 + j]? = _
  rw [List.getElem?_append_right (by simp; omega)]
  simp [hl, hh, hj]
theorem At.free {w : World} {b : Nat} {k : Gt} (h : At w b k) (j : Nat) : w.frozen? ⟨b, j, none⟩ = false := by
  unfold At at h
  simp [World.frozen?, h]
theorem At.drewN {w : World} {b : Nat} {k : Gt} (h : At w b k) (n : Nat) : At (w.drewN n) b k := h
theorem At.alloc {w : World} {b : Nat} {k : Gt} (h : At w b k) (o : Obj) : At (w.alloc o) b k := by
  unfold At at *
  rw [heap_alloc_old _ _ (lt_of_block h)]; exact h

theorem Gt.Ok.get {k : Gt} (ok : k.Ok) (j : Nat) (hj : j < 8) : 0 ≤ k.eps.getD j 0 ∧ k.eps.getD j 0 ≤ 65535 := by
  have hl := ok.le
  have e : k.eps.getD j 0 = k.eps[j]'(by omega) := by simp [List.getD_eq_getElem?_getD, hl, hj]
  rw [e]
  exact ok.rng _ (List.getElem_mem _)

def Gt.hold (k : Gt) (j : Nat) (x : Bool) : Gt := { k with held := k.held.set j x }
def Gt.ep (k : Gt) (j : Nat) (x : Int) : Gt := { k with eps := k.eps.set j x }

theorem Gt.Ok.hold {k : Gt} (ok : k.Ok) (j : Nat) (x : Bool) : (k.hold j x).Ok := ⟨ok.c0, ok.c1, ok.le, by simp [Gt.hold, ok.lh], ok.rng⟩
theorem Gt.Ok.ep {k : Gt} (ok : k.Ok) (j : Nat) (x : Int) (h0 : 0 ≤ x) (h1 : x ≤ 65535) : (k.ep j x).Ok := ⟨ok.c0, ok.c1, by simp [Gt.ep, ok.le], ok.lh, fun y hy => by
    rcases List.mem_or_eq_of_mem_set hy with h | h
    · exact ok.rng y h
    · omega⟩

theorem At.hold {w : World} {b : Nat} {k : Gt} (h : At w b k) (ok : k.Ok) (j : Nat) (x : Bool) : At (w.setCell ⟨b, 9 + j, none⟩ (.bool x)) b (k.hold j x) := by
  have hl := ok.le
  unfold At at *
  have hb : b < w.heap.size := lt_of_block h
  simp only [World.setCell, Array.getElem?_modify, h, Option.map_some, if_true]
  congr 2
  simp only [Gt.cells, Gt.hold, List.map_set]
  rw [show 9 + j = (8 + j) + 1 by omega]
  simp [hl]
theorem At.setEp {w : World} {b : Nat} {k : Gt} (h : At w b k) (ok : k.Ok) (j : Nat) (hj : j < 8) (x : Int) : At (w.setCell ⟨b, 1 + j, none⟩ (.int .i64 x)) b (k.ep j x) := by
  have hl := ok.le
  unfold At at *
  have hb : b < w.heap.size := lt_of_block h
  simp only [World.setCell, Array.getElem?_modify, h, Option.map_some, if_true]
  congr 2
  simp only [Gt.cells, Gt.ep, List.map_set]
  rw [Nat.add_comm 1 j]
  simp [hl, hj, List.set_append]

/-- Which error (0: none) the number of a core makes. -/
def coreE (cores c : Int) : Int := if 0 ≤ c ∧ c < cores then 0 else 3
theorem core_in {cores c : Int} (h : coreE cores c = 0) : 0 ≤ c ∧ c < cores := by
  unfold coreE at h
  by_cases q : 0 ≤ c ∧ c < cores
  · exact q
  · rw [if_neg q] at h; omega

set_option maxHeartbeats 400000 in
theorem wrong_any (b : Nat) (c cores : Int) (w : World) (h0 : w.cell? ⟨b, 0, none⟩ = some (.int .i64 cores)) :
    Calls Try.prog 25 #[.pointer (some ⟨b, 0, none⟩), .int .i64 c] w fun e w' => e = .returned (.int .i64 (coreE cores c)) ∧ w = w' := by
  unfold coreE
  by_cases hc : c < 0
  · rw [if_neg (by omega)]
    go_enter Try.func25, Try.ntmps25
    go_wp2_with fail
    go_ret
    exact ⟨rfl, rfl⟩
  · by_cases hc2 : cores ≤ c
    · rw [if_neg (by omega)]
      go_enter Try.func25, Try.ntmps25
      go_wp2_with fail
      go_ret
      exact ⟨rfl, rfl⟩
    · rw [if_pos (by omega)]
      go_enter Try.func25, Try.ntmps25
      go_wp2_with fail
      go_ret
      exact ⟨rfl, rfl⟩

theorem wrong_nil (c : Int) (w : World) :
    Calls Try.prog 25 #[.pointer none, .int .i64 c] w fun e w' => e = .returned (.int .i64 1) ∧ w = w' := by
  go_enter Try.func25, Try.ntmps25
  go_wp2_with fail
  go_ret
  exact ⟨rfl, rfl⟩

def upR (k : Gt) (c : Int) : Bool := decide (coreE k.cores c = 0) && !(k.held.getD c.toNat false)

set_option maxHeartbeats 400000 in
theorem up_any (b : Nat) (c : Int) (k : Gt) (w : World) (h : At w b k) (ok : k.Ok) :
    Calls Try.prog 10 #[.pointer (some ⟨b, 0, none⟩), .int .i64 c] w fun e w' => e = .returned (.bool (upR k c)) ∧ w = w' := by
  have h0 := h.cores
  unfold upR
  by_cases hc : coreE k.cores c = 0
  · obtain ⟨g0, g1⟩ := core_in hc
    obtain ⟨j, rfl⟩ := Int.eq_ofNat_of_zero_le g0
    have hc1 := ok.c1
    have hj : j < 8 := by omega
    have hi := h.up ok j hj
    rw [Int.toNat_natCast, hc]
    have hb : (coreE k.cores (j : Int) == 0) = true := by rw [hc]; rfl
    generalize k.held.getD j false = x at *
    have Hc := Lib.hid hc; clear hc
    go_enter Try.func10, Try.ntmps10
    go_wp2_with fail
    refine (wrong_any b (j : Int) k.cores _ h0).mono ?_
    rintro e w' ⟨rfl, rfl⟩
    go_wp2_with fail
    go_ret
    exact ⟨by simp, rfl⟩
  · have hd : decide (coreE k.cores c = 0) = false := by simpa using hc
    rw [hd]
    have hb : (coreE k.cores c == 0) = false := by rw [beq_eq_false_iff_ne]; exact hc
    clear hc hd
    go_enter Try.func10, Try.ntmps10
    go_wp2_with fail
    refine (wrong_any b c k.cores _ h0).mono ?_
    rintro e w' ⟨rfl, rfl⟩
    go_wp2_with fail
    go_ret
    exact ⟨by simp, rfl⟩

theorem up_nil (c : Int) (w : World) :
    Calls Try.prog 10 #[.pointer none, .int .i64 c] w fun e w' => e = .returned (.bool false) ∧ w = w' := by
  go_enter Try.func10, Try.ntmps10
  go_wp2_with fail
  refine (wrong_nil c _).mono ?_
  rintro e w' ⟨rfl, rfl⟩
  go_wp2_with fail
  go_ret
  exact ⟨rfl, rfl⟩

def epR (k : Gt) (c : Int) : Int := if coreE k.cores c = 0 then k.eps.getD c.toNat 0 else 0

set_option maxHeartbeats 400000 in
theorem epoch_any (b : Nat) (c : Int) (k : Gt) (w : World) (h : At w b k) (ok : k.Ok) :
    Calls Try.prog 19 #[.pointer (some ⟨b, 0, none⟩), .int .i64 c] w fun e w' => e = .returned (.tuple #[.int .i64 (epR k c), .int .i64 (coreE k.cores c)]) ∧ w = w' := by
  have h0 := h.cores
  unfold epR
  by_cases hc : coreE k.cores c = 0
  · rw [if_pos hc, hc]
    obtain ⟨g0, g1⟩ := core_in hc
    obtain ⟨j, rfl⟩ := Int.eq_ofNat_of_zero_le g0
    have hc1 := ok.c1
    have hj : j < 8 := by omega
    have hi := h.ep ok j hj
    rw [Int.toNat_natCast]
    have hb : (coreE k.cores (j : Int) != 0) = false := by rw [hc]; rfl
    generalize k.eps.getD j 0 = x at *
    have Hc := Lib.hid hc; clear hc
    go_enter Try.func19, Try.ntmps19
    go_wp2_with fail
    refine (wrong_any b (j : Int) k.cores _ h0).mono ?_
    rintro e w' ⟨rfl, rfl⟩
    go_wp2_with fail
    go_ret2
    exact ⟨rfl, rfl⟩
  · rw [if_neg hc]
    have hb : (coreE k.cores c != 0) = true := by rw [bne_iff_ne]; exact hc
    clear hc
    go_enter Try.func19, Try.ntmps19
    go_wp2_with fail
    refine (wrong_any b c k.cores _ h0).mono ?_
    rintro e w' ⟨rfl, rfl⟩
    go_wp2_with fail
    go_ret2
    exact ⟨rfl, rfl⟩

theorem epoch_nil (c : Int) (w : World) :
    Calls Try.prog 19 #[.pointer none, .int .i64 c] w fun e w' => e = .returned (.tuple #[.int .i64 0, .int .i64 1]) ∧ w = w' := by
  go_enter Try.func19, Try.ntmps19
  go_wp2_with fail
  refine (wrong_nil c _).mono ?_
  rintro e w' ⟨rfl, rfl⟩
  go_wp2_with fail
  go_ret2
  exact ⟨rfl, rfl⟩

end Go.Proofs.Ytghigbohaifooaa.Gates
