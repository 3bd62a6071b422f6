/- Locks: the contracts of Free and Release. -/
import Derived.Test.YtloifnnofldgmaaHeld
namespace Go.Proofs.Ytloifnnofldgmaa.Locks
set_option linter.unusedVariables false
set_option linter.unusedSimpArgs false
open Go.RowKit

/-- What Free tells: (the bank, the error). -/
def freeR (k : Bk) (c i : Int) : Bk × Int :=
  if bothE k c i = 0 then (if k.own.getD i.toNat 0 = c + 1 then (k.put i.toNat 0, 0) else (k, 12)) else (k, bothE k c i)

set_option maxHeartbeats 400000 in
theorem free_any (b : Nat) (c i : Int) (k : Bk) (w : World) (h : At w b k) (ok : k.Ok) :
    Calls Try.prog 20 #[.pointer (some ⟨b, 0, none⟩), .int .i64 c, .int .i64 i] w fun e w' => e = .returned (.int .i64 (freeR k c i).2) ∧ At w' b (freeR k c i).1 ∧ w.grownBy w' (some b) := by
  have h0 := h.cores
  have h1 := h.n
  unfold freeR
  by_cases hc : bothE k c i = 0
  · rw [if_pos hc]
    obtain ⟨hc0, hc1, hi0, hi1⟩ := both_in hc
    obtain ⟨j, rfl⟩ := Int.eq_ofNat_of_zero_le hi0
    have hn := ok.n1
    have hn8 := ok.c1
    have hl := ok.len
    have hj : j < 16 := by omega
    have hi := h.own j (by omega)
    have hf := h.free (2 + j)
    rw [Int.toNat_natCast]
    have hA : At (w.setCell ⟨b, 2 + j, none⟩ (.int .i64 0)) b (k.put j 0) := h.put j 0
    by_cases hx : k.own.getD j 0 = c + 1
    · rw [if_pos hx]
      rw [hx] at hi
      have hb : (bothE k c (j : Int) != 0) = false := by rw [hc]; rfl
      have HA := Lib.hid hA; clear hA
      unfold bothE at hb hc
      have Hc := Lib.hid hc; clear hc hl hx
      go_enter Try.func20, Try.ntmps20
      go_wp2_with fail
      refine (both_any b c (j : Int) k.cores k.n _ h0 h1).mono ?_
      rintro e w' ⟨rfl, rfl⟩
      rw [Hc.out]
      go_wp2_with fail
      go_ret
      exact ⟨rfl, HA.out, World.grownBy_set _ _ _⟩
    · rw [if_neg hx]
      have hb2 : (k.own.getD j 0 != c + 1) = true := by rw [bne_iff_ne]; exact hx
      generalize k.own.getD j 0 = x at *
      unfold bothE at hc
      have Hc := Lib.hid hc; clear hc hl hx hA
      go_enter Try.func20, Try.ntmps20
      go_wp2_with fail
      refine (both_any b c (j : Int) k.cores k.n _ h0 h1).mono ?_
      rintro e w' ⟨rfl, rfl⟩
      rw [Hc.out]
      go_wp2_with fail
      go_ret
      exact ⟨rfl, h, World.grownBy_self _ _⟩
  · rw [if_neg hc]
    have hb : (bothE k c i != 0) = true := by rw [bne_iff_ne]; exact hc
    have HB : Calls Try.prog 26 #[.pointer (some ⟨b, 0, none⟩), .int .i64 c, .int .i64 i] w fun e w' => e = .returned (.int .i64 (bothE k c i)) ∧ w = w' := both_any b c i k.cores k.n w h0 h1
    have Hc := Lib.hid hc; clear hc
    have HB := Lib.hid HB
    generalize bothE k c i = x at *
    go_enter Try.func20, Try.ntmps20
    go_wp2_with fail
    refine HB.out.mono ?_
    rintro e w' ⟨rfl, rfl⟩
    go_wp2_with fail
    go_ret
    exact ⟨rfl, h, World.grownBy_self _ _⟩

/-- The owners when the locks of a list have been taken away. -/
def without (own : List Int) (l : List Int) : List Int := l.foldl (fun o j => o.set j.toNat 0) own
theorem without_len (l : List Int) : ∀ own, (without own l).length = own.length := by
  induction l with
  | nil => intro own; rfl
  | cons x l ih => intro own; show (without (own.set x.toNat 0) l).length = _; rw [ih]; simp
theorem without_snoc (own l : List Int) (x : Int) : without own (l ++ [x]) = (without own l).set x.toNat 0 := by simp [without]

theorem heldTo_mem (own : List Int) (c : Int) (m : Nat) (x : Int) (h : x ∈ heldTo own c m) : ∃ j : Nat, j < m ∧ x = (j : Int) ∧ own.getD j 0 = c + 1 := by
  unfold heldTo at h
  simp only [List.mem_map, List.mem_filter, List.mem_range, beq_iff_eq] at h
  obtain ⟨j, ⟨h1, h2⟩, h3⟩ := h
  exact ⟨j, h1, h3.symm, h2⟩

theorem grown_trans {a b c : World} {row : Option Nat} (h : a.grownBy b row) (g : b.grownBy c row) : a.grownBy c row :=
  ⟨g.os.trans h.os, g.tape.trans h.tape, g.output.trans h.output, Nat.le_trans h.size g.size, fun k hk hn => (g.block k (Nat.lt_of_lt_of_le hk h.size) hn).trans (h.block k hk hn)⟩

def Bk.less (k : Bk) (l : List Int) : Bk := { k with own := without k.own l }

/-- What Release tells: (the bank, how many, the error). -/
def relR (k : Bk) (c : Int) : Bk × Int × Int :=
  if coreE k.cores c = 0 then (k.less (heldR k c), ((heldR k c).length : Int), 0) else (k, 0, coreE k.cores c)

theorem At.less {w : World} {b : Nat} {k : Bk} (l : List Int) (j : Nat) (h : At w b (k.less l)) : At (w.setCell ⟨b, 2 + j, none⟩ (.int .i64 0)) b (k.less (l ++ [(j : Int)])) := by
  have := h.put j 0
  have e : (k.less l).put j 0 = k.less (l ++ [(j : Int)]) := by
    unfold Bk.less Bk.put
    rw [without_snoc]
    simp
  rwa [e] at this

set_option maxHeartbeats 1000000 in
theorem release_any (b : Nat) (c : Int) (k : Bk) (w : World) (h : At w b k) (ok : k.Ok) :
    Calls Try.prog 21 #[.pointer (some ⟨b, 0, none⟩), .int .i64 c] w fun e w' => e = .returned (.tuple #[.int .i64 (relR k c).2.1, .int .i64 (relR k c).2.2]) ∧ At w' b (relR k c).1 ∧ w.grownBy w' (some b) := by
  have h0 := h.cores
  have hbw : b < w.heap.size := lt_of_block h
  unfold relR
  by_cases hc : coreE k.cores c = 0
  · rw [if_pos hc]
    have hmem : ∀ x ∈ heldR k c, ∃ j : Nat, j < 16 ∧ x = (j : Int) := by
      intro x hx
      unfold heldR at hx
      rw [if_pos hc] at hx
      obtain ⟨j, h1, h2, -⟩ := heldTo_mem _ _ _ _ hx
      exact ⟨j, h1, h2⟩
    have hlen : (heldR k c).length ≤ 16 := by
      unfold heldR
      rw [if_pos hc]
      exact heldTo_len _ _ _
    have hL : ∃ l, heldR k c = l := ⟨_, rfl⟩
    obtain ⟨l, hL⟩ := hL
    rw [hL] at hmem hlen ⊢
    have HL := Lib.hid hL; clear hL
    have hb : (coreE k.cores c != 0) = false := by rw [hc]; rfl
    have Hc := Lib.hid hc; clear hc
    go_enter Try.func21, Try.ntmps21
    go_wp2_with fail
    refine (core_any b c k.cores _ h0).mono ?_
    rintro e w' ⟨rfl, rfl⟩
    go_wp2_with fail
    refine (held_any b c k _ h ok).mono ?_
    rintro e w1 ⟨v, rfl, hown, hbel⟩
    rw [HL.out] at hown
    have hAt : At w1 b (k.less (l.take 0)) := by
      have e : k.less (l.take 0) = k := by unfold Bk.less without; simp
      rw [e]
      unfold At at *
      rw [hbel.block b hbw]; exact h
    have hg0 : w.grownBy w1 (some b) := ⟨hbel.os, hbel.tape, hbel.output, hbel.size, fun n hn _ => hbel.block n hn⟩
    have hls := ok.len
    have Hm := Lib.hid hmem
    clear hmem
    obtain ⟨hxl, ⟨rfl, hl0⟩ | ⟨g, cap, cur, rfl, hgb, hblk, hncap, hcap, hcur, htake⟩⟩ := hown
    · have hl : l = [] := List.eq_nil_of_length_eq_zero hl0
      subst hl
      go_wp2_with fail
      go_loopw [21] (fun i wr => i = .int .i64 0 ∧ At wr b (k.less []) ∧ w.grownBy wr (some b)) (fun i _ => 0)
      case atStart => exact ⟨rfl, hAt, hg0⟩
      case round =>
        obtain ⟨rfl, hA, hG⟩ := hrel
        go_wp2_with fail
        go_ret2
        exact ⟨rfl, hA, hG⟩
    · have hown : w1.ownsRow w.heap.size 3 1 (.slice (some ⟨g, 0, none⟩) l.length cap) l.length (l.map (Value.int .i64)) := ⟨hxl, .inr ⟨g, cap, cur, rfl, hgb, hblk, hncap, hcap, hcur, htake⟩⟩
      clear hxl hblk hcur htake
      go_wp2_with fail
      go_loopw [21] (fun i wr => ∃ m : Nat, m ≤ l.length ∧ i = .int .i64 m ∧ At wr b (k.less (l.take m)) ∧ w.grownBy wr (some b) ∧ wr.ownsRow w.heap.size 3 1 (.slice (some ⟨g, 0, none⟩) l.length cap) l.length (l.map (Value.int .i64)))
        (fun i _ => l.length - (intOf i).toNat)
      case atStart => exact ⟨0, by omega, rfl, hAt, hg0, hown⟩
      case round =>
        obtain ⟨m, hm, rfl, hA, hG, hO⟩ := hrel
        by_cases hlt : m < l.length
        · have hc1 := hO.cellAt m (by omega)
          obtain ⟨j, hj, hx⟩ := Hm.out (l[m]) (List.getElem_mem _)
          have hc2 : wr.cell? ⟨g, m, none⟩ = some (.int .i64 (j : Int)) := by rw [hc1]; simp [hlt, hx]
          have hfr := hA.free (2 + j)
          have hce := hA.own j (by show j < (without _ _).length; rw [without_len]; omega)
          have htk : l.take (m + 1) = l.take m ++ [(j : Int)] := by rw [List.take_succ_eq_append_getElem hlt, hx]
          have hA2 : At (wr.setCell ⟨b, 2 + j, none⟩ (.int .i64 0)) b (k.less (l.take (m + 1))) := by rw [htk]; exact hA.less _ j
          have hG2 : w.grownBy (wr.setCell ⟨b, 2 + j, none⟩ (.int .i64 0)) (some b) := grown_trans hG (World.grownBy_set _ _ _)
          have hO2 : (wr.setCell ⟨b, 2 + j, none⟩ (.int .i64 0)).ownsRow w.heap.size 3 1 (.slice (some ⟨g, 0, none⟩) l.length cap) l.length (l.map (Value.int .i64)) :=
            hO.kept (World.grownBy_set _ _ _) (.inr (by simp [Value.ownBlock]; omega))
          have HA2 := Lib.hid (And.intro hA2 (And.intro hG2 hO2))
          clear hc1 hA hG hO hA2 hG2 hO2 htk hx hAt hg0 hown
          go_wp2_with fail
          go_roundw
          case rel => exact ⟨m + 1, by omega, by go_num, HA2.out.1, HA2.out.2.1, HA2.out.2.2⟩
          case measure => simp [intOf]; omega
        · have hme : m = l.length := by omega
          subst hme
          rw [List.take_length] at hA
          clear hO hown hAt hg0
          go_wp2_with fail
          go_ret2
          exact ⟨rfl, hA, hG⟩
  · rw [if_neg hc]
    have hb : (coreE k.cores c != 0) = true := by rw [bne_iff_ne]; exact hc
    have Hc := Lib.hid hc; clear hc
    go_enter Try.func21, Try.ntmps21
    go_wp2_with fail
    refine (core_any b c k.cores _ h0).mono ?_
    rintro e w' ⟨rfl, rfl⟩
    go_wp2_with fail
    go_ret2
    exact ⟨rfl, h, World.grownBy_self _ _⟩

end Go.Proofs.Ytloifnnofldgmaa.Locks
