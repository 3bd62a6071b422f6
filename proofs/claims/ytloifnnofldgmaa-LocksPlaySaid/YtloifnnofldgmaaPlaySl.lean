/- Locks: the reference's slices, and what keeps them. -/
import Derived.Test.YtloifnnofldgmaaPlayLaw
namespace Go.Proofs.Ytloifnnofldgmaa.Locks
set_option linter.unusedVariables false
set_option linter.unusedSimpArgs false
open Go.RowKit Go.Proofs.Ytloifnnofldgmaa.PLocksPlay Go.Proofs.YtloifnnofldgmaaW.PrintWords

/-- A slice of ints of the call's own, in a block from B on. -/
def Sl (w : World) (B : Nat) (v : Value) (l : List Int) : Prop := Kd.R (Kd.int .i64) 3 w B (fun _ => True) v l

theorem Sl.below {w w' : World} {B : Nat} {v : Value} {l : List Int} (h : Sl w B v l) (hb : Below w.heap.size w w') : Sl w' B v l := Kd.R_below h hb
theorem Sl.grown {w w' : World} {B b : Nat} {v : Value} {l : List Int} (h : Sl w B v l) (hg : w.grownBy w' (some b)) (hb : b < B) : Sl w' B v l := by
  have h1 := Kd.R_mono (ok' := fun k => k ≠ b) (Kd.R_bound h) (fun k hk => by have := hk.2.1; omega)
  exact Kd.R_mono (Kd.R_grown h1 hg (fun k hk => by simpa using hk)) (fun _ _ => trivial)
theorem Sl.set {w : World} {B : Nat} {v : Value} {l : List Int} (h : Sl w B v l) (p : Addr) (u : Value) (hne : ∃ cs t, w.heap[p.block]? = some (.cells cs t (0, 0)) ∧ t ≠ 3) : Sl (w.setCell p u) B v l := by
  obtain ⟨cs, t, hc, ht⟩ := hne
  have h1 := Kd.R_mono (ok' := fun k => k ≠ p.block) (Kd.R_bound h) (fun k hk => by
    obtain ⟨-, -, -, q, hq, cells, hcell⟩ := hk
    rintro rfl
    rw [hc] at hcell
    injection hcell with hcell
    injection hcell with _ h2 _
    have : q = 3 := by simpa [Kd.int, Kd.scalar] using hq
    exact ht (h2.trans this))
  exact Kd.R_mono (Kd.R_far h1 (fun k hk => hk) u) (fun _ _ => trivial)
theorem Sl.new {w w' : World} {B : Nat} {v : Value} {l : List Int} (h : Kd.R (Kd.int .i64) 3 w' w.heap.size (fun _ => True) v l) (hB : B ≤ w.heap.size) : Sl w' B v l := Kd.R_lower h hB
theorem Sl.lower {w : World} {B B' : Nat} {v : Value} {l : List Int} (h : Sl w B v l) (hB : B' ≤ B) : Sl w B' v l := Kd.R_lower h hB
theorem Sl.open_ {w : World} {B : Nat} {v : Value} {l : List Int} (h : Sl w B v l) : ∃ A c, v = .slice A l.length c ∧ l.length ≤ c ∧ Kd.C (Kd.int .i64) w A l.length l := Kd.R_reads h
theorem Sl.at_ {w : World} {B : Nat} {A : Option Addr} {n c : Nat} {l : List Int} (h : Sl w B (.slice A n c) l) (i : Int) (h0 : 0 ≤ i) (h1 : i < n) : ∃ ad, A = some ad ∧ w.cell? (ad.add i.toNat) = some (.int .i64 (rd l i)) := by
  obtain ⟨A', c', he, hc, hC⟩ := h.open_
  injection he with e1 e2 e3
  subst e1 e2 e3
  exact Kd.at_int hC i h0 h1

theorem rd_abs (k : Bk) (i : Int) (h0 : 0 ≤ i) (h1 : i < k.n) : rd (abs k) i = k.own.getD i.toNat 0 - 1 := by
  unfold rd
  exact abs_at k _ (by omega)

theorem abs_put {k : Bk} (f : k.Fit) (j : Nat) (x : Int) (hj : (j : Int) < k.n) : abs (k.put j x) = (abs k).set j (x - 1) := by
  have hn := f.ok.n1
  symm
  apply abs_ext
  · rw [List.length_set, abs_len]; rfl
  · intro m hm
    have hm' : m < k.n.toNat := hm
    rw [put_at f.ok j m x (by omega)]
    simp only [List.getD_eq_getElem?_getD, List.getElem?_set, abs_len]
    have ha := abs_at k m hm'
    rw [List.getD_eq_getElem?_getD] at ha
    by_cases e : j = m
    · subst e
      rw [if_pos rfl, if_pos rfl, if_pos hm']
      rfl
    · rw [if_neg e, if_neg e, ha]
      rfl

theorem less_snoc (k : Bk) (l : List Int) (j : Nat) : k.less (l ++ [(j : Int)]) = (k.less l).put j 0 := by
  unfold Bk.less Bk.put
  rw [without_snoc]
  rfl

theorem len_abs_lt (k : Bk) (f : k.Fit) : (abs k).length < 17592186044416 := by
  rw [abs_len]; have := f.ok.n1; omega

theorem with_eq (k : Bk) (f : k.Fit) (i x : Int) (h0 : 0 ≤ i) (h1 : i < k.n) : switchyardref10_with.f k.cores (abs k) i x = some (k.cores, (abs k).set i.toNat x) := by
  unfold switchyardref10_with.f
  rw [if_pos (by rw [List.length_nil, Nat.zero_add]; exact len_abs_lt k f)]
  simp only [Option.bind_some, List.nil_append]
  rw [if_pos h0, if_pos (by rw [abs_len]; omega)]

theorem same_eq (a b : List Int) (K : Nat) (ha : a.length < 1000) (hK : a.length < K) : switchyardref03_Same.f K a b = some (decide (a = b)) := by
  unfold switchyardref03_Same.f
  by_cases hl : a.length = b.length
  · rw [if_pos (by omega)]
    have key : ∀ (d K m : Nat), m + d = a.length → d < K → (∀ j, j < m → a[j]? = b[j]?) → switchyardref03_Same.l0 K a b (m : Int) = some (decide (a = b)) := by
      intro d
      induction d with
      | zero =>
        intro K m hm hK hj
        obtain ⟨K, rfl⟩ : ∃ q, K = q + 1 := ⟨K - 1, by omega⟩
        simp only [switchyardref03_Same.l0]
        rw [if_neg (by omega)]
        have : a = b := by
          apply List.ext_getElem?
          intro j
          by_cases hx : j < m
          · exact hj j hx
          · rw [List.getElem?_eq_none (by omega), List.getElem?_eq_none (by omega)]
        simp [this]
      | succ d ih =>
        intro K m hm hK hj
        obtain ⟨K, rfl⟩ : ∃ q, K = q + 1 := ⟨K - 1, by omega⟩
        simp only [switchyardref03_Same.l0]
        have e1 : wrap64 ((m : Int) + 1) = ((m + 1 : Nat) : Int) := by unfold wrap64; omega
        rw [if_pos (by omega), if_pos (by omega), if_pos (by omega), e1]
        unfold rd
        rw [Int.toNat_natCast]
        have ga : a[m]? = some (a.getD m 0) := by rw [List.getD_eq_getElem?_getD, List.getElem?_eq_getElem (by omega)]; rfl
        have gb : b[m]? = some (b.getD m 0) := by rw [List.getD_eq_getElem?_getD, List.getElem?_eq_getElem (by omega)]; rfl
        by_cases hx : a.getD m 0 = b.getD m 0
        · rw [if_pos hx]
          refine ih K (m + 1) (by omega) (by omega) fun j hj' => ?_
          by_cases e : j = m
          · subst e; rw [ga, gb, hx]
          · exact hj j (by omega)
        · rw [if_neg hx]
          have : a ≠ b := by rintro rfl; exact hx rfl
          simp [this]
    exact key a.length K 0 (by omega) (by omega) (fun j hj => by omega)
  · rw [if_neg (by omega)]
    have : a ≠ b := by rintro rfl; exact hl rfl
    simp [this]

theorem new_eq (c n : Int) (h : isNew c n) : switchyardref10_New.f 20 c n = some (c, abs (newBk c n)) := by
  obtain ⟨h1, h2, h3, h4⟩ := h
  unfold switchyardref10_New.f
  have key : ∀ (d K m : Nat), m + d = n.toNat → d < K → switchyardref10_New.l0 K n (m : Int) c (List.replicate m (-1)) = some (c, List.replicate n.toNat (-1)) := by
    intro d
    induction d with
    | zero =>
      intro K m hm hK
      obtain ⟨K, rfl⟩ : ∃ q, K = q + 1 := ⟨K - 1, by omega⟩
      simp only [switchyardref10_New.l0]
      rw [if_neg (by omega)]
      have : m = n.toNat := by omega
      rw [this]
    | succ d ih =>
      intro K m hm hK
      obtain ⟨K, rfl⟩ : ∃ q, K = q + 1 := ⟨K - 1, by omega⟩
      simp only [switchyardref10_New.l0]
      have e1 : wrap64 ((m : Int) + 1) = ((m + 1 : Nat) : Int) := by unfold wrap64; omega
      rw [if_pos (by omega), if_pos (by rw [List.length_replicate]; omega), e1, ← List.replicate_succ']
      exact ih K (m + 1) (by omega) (by omega)
  have := key n.toNat 20 0 (by omega) (by omega)
  rw [show ((0 : Nat) : Int) = 0 from rfl] at this
  rw [show ([] : List Int) = List.replicate 0 (-1) from rfl, this]
  congr 2
  apply abs_ext
  · rw [List.length_replicate]; rfl
  · intro j hj
    have hj' : j < n.toNat := hj
    have e : (newBk c n).own.getD j 0 = 0 := by
      unfold newBk
      simp only [List.getD_eq_getElem?_getD, List.getElem?_replicate]
      split <;> rfl
    rw [e]
    simp [List.getD_eq_getElem?_getD, hj']

end Go.Proofs.Ytloifnnofldgmaa.Locks
