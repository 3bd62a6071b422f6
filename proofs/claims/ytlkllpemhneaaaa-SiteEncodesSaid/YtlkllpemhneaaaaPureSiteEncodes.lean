/- The plain law of SiteEncodes, with no program in sight: for all numbers of their kind, the printed function of the law comes to true. -/
import Derived.Test.YtlkllpemhneaaaaPSiteEncodesx
namespace Go.Proofs.Ytlkllpemhneaaaa.PureEncodes
set_option linter.unusedVariables false
set_option linter.unusedSimpArgs false
open Go.RowKit Go.Proofs.Ytlkllpemhneaaaa.PSiteEncodes Go.Proofs.YtlkllpemhneaaaaW.PrintWords Go.Proofs.YtlkllpemhneaaaaW.PrintLast

/-- A plan is right. -/
def Rt (c w l : Int) : Prop := 1 ≤ c ∧ c ≤ 8 ∧ 1 ≤ w ∧ w ≤ 65536 ∧ 1 ≤ l ∧ l ≤ 16
instance (c w l : Int) : Decidable (Rt c w l) := by unfold Rt; infer_instance

theorem below_eq (a b : Int) : site_below.f a b = some (decide (0 ≤ a ∧ a < b)) := by
  unfold site_below.f
  by_cases h : a ≥ 0
  · rw [if_pos h]; simp [h]
  · rw [if_neg h]; simp; omega

theorem dec_of {p q : Prop} [Decidable p] [Decidable q] (h : p ↔ q) : (some (decide p) : Option Bool) = some (decide q) := by
  congr 1
  rw [Bool.eq_iff_iff, decide_eq_true_iff, decide_eq_true_iff]
  exact h

theorem dec_no {q : Prop} [Decidable q] (h : ¬ q) : (some false : Option Bool) = some (decide q) := by rw [decide_eq_false h]

theorem right_eq (c w l : Int) (hc : -9223372036854775808 ≤ c ∧ c ≤ 9223372036854775807) (hw : -9223372036854775808 ≤ w ∧ w ≤ 9223372036854775807) (hl : -9223372036854775808 ≤ l ∧ l ≤ 9223372036854775807) :
    site_Right.f c w l = some (decide (Rt c w l)) := by
  unfold site_Right.f
  simp only [below_eq, Option.bind_some]
  have e1 : (0 ≤ wrap64 (c - 1) ∧ wrap64 (c - 1) < 8) ↔ (1 ≤ c ∧ c ≤ 8) := by unfold wrap64; omega
  have e2 : (0 ≤ wrap64 (w - 1) ∧ wrap64 (w - 1) < 65536) ↔ (1 ≤ w ∧ w ≤ 65536) := by unfold wrap64; omega
  have e3 : (0 ≤ wrap64 (l - 1) ∧ wrap64 (l - 1) < 16) ↔ (1 ≤ l ∧ l ≤ 16) := by unfold wrap64; omega
  simp only [e1, e2, e3, decide_eq_true_eq]
  by_cases h1 : 1 ≤ c ∧ c ≤ 8
  · rw [if_pos h1]
    by_cases h2 : 1 ≤ w ∧ w ≤ 65536
    · rw [if_pos h2]; exact dec_of (by unfold Rt; omega)
    · rw [if_neg h2]; exact dec_no (by unfold Rt; omega)
  · rw [if_neg h1]; exact dec_no (by unfold Rt; omega)

theorem rright_eq (c w l : Int) : switchyardref08_Right.f c w l = some (decide (Rt c w l)) := by
  unfold switchyardref08_Right.f
  repeat' split
  all_goals first | exact dec_of (by unfold Rt; omega) | exact dec_no (by unfold Rt; omega)

/-- The address of a spot. -/
def enc (c w l k i r : Int) : Int × Bool :=
  if Rt c w l then
    if k = 1 ∧ i = 0 ∧ 0 ≤ r ∧ r < w then (r, true)
    else if k = 2 ∧ 0 ≤ i ∧ i < c ∧ 0 ≤ r ∧ r < 3 then (65536 + 16 * i + r, true)
    else if k = 3 ∧ 0 ≤ i ∧ i < l ∧ r = 0 then (65792 + i, true)
    else if k = 4 ∧ 0 ≤ i ∧ i < c ∧ r = 0 then (66048 + i, true)
    else (0, false)
  else (0, false)

theorem enc_eq (c w l k i r : Int) (hc : -9223372036854775808 ≤ c ∧ c ≤ 9223372036854775807) (hw : -9223372036854775808 ≤ w ∧ w ≤ 9223372036854775807) (hl : -9223372036854775808 ≤ l ∧ l ≤ 9223372036854775807) :
    site_Encode.f c w l k i r = some (enc c w l k i r) := by
  unfold site_Encode.f enc
  simp only [below_eq, right_eq c w l hc hw hl, Option.bind_some, decide_eq_true_eq]
  by_cases hr : Rt c w l
  · simp only [if_pos hr]
    obtain ⟨r1, r2, r3, r4, r5, r6⟩ := hr
    by_cases k1 : k = 1
    · subst k1
      simp only [if_true]
      by_cases hi : i = 0
      · rw [if_pos hi]
        by_cases h : 0 ≤ r ∧ r < w
        · rw [if_pos h, if_pos ⟨trivial, hi, h⟩]
        · rw [if_neg h, if_neg (by omega), if_neg (by omega), if_neg (by omega), if_neg (by omega)]
      · rw [if_neg hi, if_neg (by omega), if_neg (by omega), if_neg (by omega), if_neg (by omega)]
    · rw [if_neg k1]
      by_cases k2 : k = 2
      · subst k2
        simp only [if_true]
        by_cases hi : 0 ≤ i ∧ i < c
        · rw [if_pos hi]
          by_cases h : 0 ≤ r ∧ r < 3
          · rw [if_pos h, if_neg (by omega), if_pos ⟨trivial, hi.1, hi.2, h⟩]
            have e : wrap64 (wrap64 (65536 + wrap64 (16 * i)) + r) = 65536 + 16 * i + r := by unfold wrap64; omega
            rw [e]
          · rw [if_neg h, if_neg (by omega), if_neg (by omega), if_neg (by omega), if_neg (by omega)]
        · rw [if_neg hi, if_neg (by omega), if_neg (by omega), if_neg (by omega), if_neg (by omega)]
      · rw [if_neg k2]
        by_cases k3 : k = 3
        · subst k3
          simp only [if_true]
          by_cases hi : 0 ≤ i ∧ i < l
          · rw [if_pos hi]
            by_cases h : r = 0
            · rw [if_pos h, if_neg (by omega), if_neg (by omega), if_pos ⟨trivial, hi.1, hi.2, h⟩]
              have e : wrap64 (65792 + i) = 65792 + i := by unfold wrap64; omega
              rw [e]
            · rw [if_neg h, if_neg (by omega), if_neg (by omega), if_neg (by omega), if_neg (by omega)]
          · rw [if_neg hi, if_neg (by omega), if_neg (by omega), if_neg (by omega), if_neg (by omega)]
        · rw [if_neg k3]
          by_cases k4 : k = 4
          · subst k4
            simp only [if_true]
            by_cases hi : 0 ≤ i ∧ i < c
            · rw [if_pos hi]
              by_cases h : r = 0
              · rw [if_pos h, if_neg (by omega), if_neg (by omega), if_neg (by omega), if_pos ⟨trivial, hi.1, hi.2, h⟩]
                have e : wrap64 (66048 + i) = 66048 + i := by unfold wrap64; omega
                rw [e]
              · rw [if_neg h, if_neg (by omega), if_neg (by omega), if_neg (by omega), if_neg (by omega)]
            · rw [if_neg hi, if_neg (by omega), if_neg (by omega), if_neg (by omega), if_neg (by omega)]
          · rw [if_neg k4, if_neg (by omega), if_neg (by omega), if_neg (by omega), if_neg (by omega)]
  · simp only [if_neg hr]
    repeat' split
    all_goals rfl

/-- What stands at an address. -/
def dec (c w l a : Int) : Int × Int × Int × Bool :=
  if Rt c w l then
    if 0 ≤ a ∧ a < w then (1, 0, a, true)
    else if 65536 ≤ a ∧ a < 65536 + 16 * c ∧ (a - 65536) % 16 < 3 then (2, (a - 65536) / 16, (a - 65536) % 16, true)
    else if 65792 ≤ a ∧ a < 65792 + l then (3, a - 65792, 0, true)
    else if 66048 ≤ a ∧ a < 66048 + c then (4, a - 66048, 0, true)
    else (0, 0, 0, false)
  else (0, 0, 0, false)

theorem l2_eq (l a c w : Int) (hl : l ≤ 16) (d : Nat) : ∀ (k : Nat) (i : Int), 0 ≤ i → l - i = d → d < k →
    switchyardref08_Decode.l2 k a i c w l = some (if 65792 + i ≤ a ∧ a < 65792 + l then (3, a - 65792, 0, true) else (0, 0, 0, false)) := by
  induction d with
  | zero =>
    intro k i h0 h1 hk
    obtain ⟨k, rfl⟩ : ∃ m, k = m + 1 := ⟨k - 1, by omega⟩
    simp only [switchyardref08_Decode.l2]
    rw [if_neg (by omega), if_neg (by omega)]
  | succ d ih =>
    intro k i h0 h1 hk
    obtain ⟨k, rfl⟩ : ∃ m, k = m + 1 := ⟨k - 1, by omega⟩
    simp only [switchyardref08_Decode.l2]
    rw [if_pos (by omega)]
    have e : wrap64 (65792 + i) = 65792 + i := by unfold wrap64; omega
    have e1 : wrap64 (i + 1) = i + 1 := by unfold wrap64; omega
    rw [e, e1]
    by_cases h : a = 65792 + i
    · rw [if_pos h, if_pos (by omega), h]
      have : 65792 + i - 65792 = i := by omega
      rw [this]
    · rw [if_neg h, ih k (i + 1) (by omega) (by omega) (by omega)]
      by_cases h2 : 65792 + i ≤ a ∧ a < 65792 + l
      · rw [if_pos h2, if_pos (by omega)]
      · rw [if_neg h2, if_neg (by omega)]

/-- What the loop over the cores from i on comes to. -/
def from_ (c l a i : Int) : Int × Int × Int × Bool :=
  if 65536 + 16 * i ≤ a ∧ a < 65536 + 16 * c ∧ (a - 65536) % 16 < 3 then (2, (a - 65536) / 16, (a - 65536) % 16, true)
  else if 66048 + i ≤ a ∧ a < 66048 + c then (4, a - 66048, 0, true)
  else if 65792 ≤ a ∧ a < 65792 + l then (3, a - 65792, 0, true) else (0, 0, 0, false)

theorem l1_eq (l a c w i : Int) (hc : c ≤ 8) (h0 : 0 ≤ i) (hi : i < c) (d : Nat) : ∀ (k : Nat) (r : Int), 0 ≤ r → 3 - r = d → d < k →
    switchyardref08_Decode.l1 k a i r c w l = if 65536 + 16 * i + r ≤ a ∧ a < 65536 + 16 * i + 3 then some (2, i, a - 65536 - 16 * i, true) else if a = 66048 + i then some (4, i, 0, true) else switchyardref08_Decode.l0 (k - d - 1) a (i + 1) c w l := by
  induction d with
  | zero =>
    intro k r hr h1 hk
    obtain ⟨k, rfl⟩ : ∃ m, k = m + 1 := ⟨k - 1, by omega⟩
    simp only [switchyardref08_Decode.l1]
    have e : wrap64 (66048 + i) = 66048 + i := by unfold wrap64; omega
    have e1 : wrap64 (i + 1) = i + 1 := by unfold wrap64; omega
    rw [if_neg (by omega), if_neg (c := 65536 + 16 * i + r ≤ a ∧ a < 65536 + 16 * i + 3) (by omega), e, e1]
    rfl
  | succ d ih =>
    intro k r hr h1 hk
    obtain ⟨k, rfl⟩ : ∃ m, k = m + 1 := ⟨k - 1, by omega⟩
    simp only [switchyardref08_Decode.l1]
    rw [if_pos (by omega)]
    have e : wrap64 (wrap64 (65536 + wrap64 (16 * i)) + r) = 65536 + 16 * i + r := by unfold wrap64; omega
    have e1 : wrap64 (r + 1) = r + 1 := by unfold wrap64; omega
    rw [e, e1]
    by_cases h : a = 65536 + 16 * i + r
    · rw [if_pos h, if_pos (by omega)]
      have : a - 65536 - 16 * i = r := by omega
      rw [this]
    · rw [if_neg h, ih k (r + 1) (by omega) (by omega) (by omega)]
      have e2 : k + 1 - (d + 1) - 1 = k - d - 1 := by omega
      rw [e2]
      by_cases h2 : 65536 + 16 * i + r ≤ a ∧ a < 65536 + 16 * i + 3
      · rw [if_pos h2, if_pos (by omega)]
      · rw [if_neg h2, if_neg (by omega)]

theorem l0_eq (l a c w : Int) (hc : c ≤ 8) (hl : 1 ≤ l) (hl' : l ≤ 16) (d : Nat) : ∀ (k : Nat) (i : Int), 0 ≤ i → c - i = d → 5 * d + 20 < k →
    switchyardref08_Decode.l0 k a i c w l = some (from_ c l a i) := by
  induction d with
  | zero =>
    intro k i h0 h1 hk
    obtain ⟨k, rfl⟩ : ∃ m, k = m + 1 := ⟨k - 1, by omega⟩
    simp only [switchyardref08_Decode.l0]
    rw [if_neg (by omega), l2_eq l a c w hl' l.toNat k 0 (by omega) (by omega) (by omega)]
    unfold from_
    rw [if_neg (c := 65536 + 16 * i ≤ a ∧ a < 65536 + 16 * c ∧ (a - 65536) % 16 < 3) (by omega), if_neg (c := 66048 + i ≤ a ∧ a < 66048 + c) (by omega), Int.add_zero]
  | succ d ih =>
    intro k i h0 h1 hk
    obtain ⟨k, rfl⟩ : ∃ m, k = m + 1 := ⟨k - 1, by omega⟩
    simp only [switchyardref08_Decode.l0]
    rw [if_pos (by omega), l1_eq l a c w i hc h0 (by omega) 3 k 0 (by omega) (by omega) (by omega), ih (k - 3 - 1) (i + 1) (by omega) (by omega) (by omega)]
    unfold from_
    by_cases h : 65536 + 16 * i + 0 ≤ a ∧ a < 65536 + 16 * i + 3
    · rw [if_pos h, if_pos (by omega)]
      have e1 : (a - 65536) / 16 = i := by omega
      have e2 : (a - 65536) % 16 = a - 65536 - 16 * i := by omega
      rw [e1, e2]
    · rw [if_neg h]
      by_cases g : a = 66048 + i
      · rw [if_pos g, if_neg (by omega), if_pos (by omega)]
        have : a - 66048 = i := by omega
        rw [this]
      · rw [if_neg g]
        by_cases m : 65536 + 16 * i ≤ a ∧ a < 65536 + 16 * c ∧ (a - 65536) % 16 < 3
        · rw [if_pos m, if_pos (by omega)]
        · rw [if_neg m, if_neg (by omega)]
          by_cases n : 66048 + i ≤ a ∧ a < 66048 + c
          · rw [if_pos n, if_pos (by omega)]
          · rw [if_neg n, if_neg (by omega)]

theorem rdec_eq (c w l a : Int) (k : Nat) (hk : 100 ≤ k) : switchyardref08_Decode.f k c w l a = some (dec c w l a) := by
  unfold switchyardref08_Decode.f dec
  rw [rright_eq]
  simp only [Option.bind_some, decide_eq_true_eq]
  by_cases hr : Rt c w l
  · rw [if_pos hr, if_pos hr]
    obtain ⟨r1, r2, r3, r4, r5, r6⟩ := hr
    obtain ⟨k, rfl⟩ : ∃ m, k = m + 1 := ⟨k - 1, by omega⟩
    simp only [switchyardref08_Decode.j0, decide_eq_true_eq]
    rw [l0_eq l a c w r2 r5 r6 c.toNat k 0 (by omega) (by omega) (by omega)]
    unfold from_
    by_cases h : 0 ≤ a ∧ a < w
    · rw [if_pos h.1, if_pos h.2, if_pos h]
    · rw [if_neg h]
      have e : (if a ≥ 0 then (if a < w then some ((1 : Int), (0 : Int), a, true) else some (if 65536 + 16 * 0 ≤ a ∧ a < 65536 + 16 * c ∧ (a - 65536) % 16 < 3 then (2, (a - 65536) / 16, (a - 65536) % 16, true) else if 66048 + 0 ≤ a ∧ a < 66048 + c then (4, a - 66048, 0, true) else if 65792 ≤ a ∧ a < 65792 + l then (3, a - 65792, 0, true) else (0, 0, 0, false))) else (if false = true then some ((1 : Int), (0 : Int), a, true) else some (if 65536 + 16 * 0 ≤ a ∧ a < 65536 + 16 * c ∧ (a - 65536) % 16 < 3 then (2, (a - 65536) / 16, (a - 65536) % 16, true) else if 66048 + 0 ≤ a ∧ a < 66048 + c then (4, a - 66048, 0, true) else if 65792 ≤ a ∧ a < 65792 + l then (3, a - 65792, 0, true) else (0, 0, 0, false)))) = some (if 65536 + 16 * 0 ≤ a ∧ a < 65536 + 16 * c ∧ (a - 65536) % 16 < 3 then (2, (a - 65536) / 16, (a - 65536) % 16, true) else if 66048 + 0 ≤ a ∧ a < 66048 + c then (4, a - 66048, 0, true) else if 65792 ≤ a ∧ a < 65792 + l then (3, a - 65792, 0, true) else (0, 0, 0, false)) := by
        by_cases g : a ≥ 0
        · rw [if_pos g, if_neg (by omega)]
        · rw [if_neg g, if_neg (by simp)]
      rw [e]
      by_cases m : 65536 ≤ a ∧ a < 65536 + 16 * c ∧ (a - 65536) % 16 < 3
      · rw [if_pos m, if_pos (by omega)]
      · rw [if_neg m, if_neg (by omega)]
        by_cases n : 66048 ≤ a ∧ a < 66048 + c
        · rw [if_pos (by omega), if_neg (by omega), if_pos n]
        · rw [if_neg (by omega)]
          by_cases o : 65792 ≤ a ∧ a < 65792 + l
          · rw [if_pos o, if_pos o]
          · rw [if_neg o, if_neg o, if_neg n]
  · rw [if_neg hr, if_neg hr]

/-- At an address of 65536 on stands a spot, or none does: the address decides. -/
theorem dec_enc (c w l a k i r : Int) (ha : 65536 ≤ a) : dec c w l a = (k, i, r, true) ↔ (k ≠ 1 ∧ enc c w l k i r = (a, true)) := by
  unfold dec enc
  by_cases hr : Rt c w l
  · simp only [if_pos hr]
    obtain ⟨r1, r2, r3, r4, r5, r6⟩ := hr
    rw [if_neg (by omega)]
    constructor
    · intro h
      by_cases m : 65536 ≤ a ∧ a < 65536 + 16 * c ∧ (a - 65536) % 16 < 3
      · rw [if_pos m] at h
        simp only [Prod.mk.injEq, and_true] at h
        obtain ⟨rfl, rfl, rfl⟩ := h
        refine ⟨by omega, ?_⟩
        rw [if_neg (by omega), if_pos (by omega)]
        simp only [Prod.mk.injEq, and_true, true_and]
        omega
      · rw [if_neg m] at h
        by_cases m : 65792 ≤ a ∧ a < 65792 + l
        · rw [if_pos m] at h
          simp only [Prod.mk.injEq, and_true] at h
          obtain ⟨rfl, rfl, rfl⟩ := h
          refine ⟨by omega, ?_⟩
          rw [if_neg (by omega), if_neg (by omega), if_pos (by omega)]
          simp only [Prod.mk.injEq, and_true, true_and]
          omega
        · rw [if_neg m] at h
          by_cases m : 66048 ≤ a ∧ a < 66048 + c
          · rw [if_pos m] at h
            simp only [Prod.mk.injEq, and_true] at h
            obtain ⟨rfl, rfl, rfl⟩ := h
            refine ⟨by omega, ?_⟩
            rw [if_neg (by omega), if_neg (by omega), if_neg (by omega), if_pos (by omega)]
            simp only [Prod.mk.injEq, and_true, true_and]
            omega
          · rw [if_neg m] at h
            simp at h
    · rintro ⟨k1, h⟩
      rw [if_neg (by omega)] at h
      by_cases m : k = 2 ∧ 0 ≤ i ∧ i < c ∧ 0 ≤ r ∧ r < 3
      · rw [if_pos m] at h
        simp only [Prod.mk.injEq, and_true] at h
        obtain ⟨rfl, m⟩ := m
        rw [if_pos (by omega)]
        simp only [Prod.mk.injEq, and_true, true_and]
        omega
      · rw [if_neg m] at h
        by_cases m : k = 3 ∧ 0 ≤ i ∧ i < l ∧ r = 0
        · rw [if_pos m] at h
          simp only [Prod.mk.injEq, and_true] at h
          obtain ⟨rfl, m⟩ := m
          rw [if_neg (by omega), if_pos (by omega)]
          simp only [Prod.mk.injEq, and_true, true_and]
          omega
        · rw [if_neg m] at h
          by_cases m : k = 4 ∧ 0 ≤ i ∧ i < c ∧ r = 0
          · rw [if_pos m] at h
            simp only [Prod.mk.injEq, and_true] at h
            obtain ⟨rfl, m⟩ := m
            rw [if_neg (by omega), if_neg (by omega), if_pos (by omega)]
            simp only [Prod.mk.injEq, and_true, true_and]
            omega
          · rw [if_neg m] at h
            simp at h
  · simp only [if_neg hr]
    simp

theorem enc_range (c w l k i r a : Int) (h : enc c w l k i r = (a, true)) (k1 : k ≠ 1) : 65536 ≤ a ∧ a < 66056 := by
  unfold enc at h
  by_cases hr : Rt c w l
  · rw [if_pos hr] at h
    obtain ⟨r1, r2, r3, r4, r5, r6⟩ := hr
    rw [if_neg (by omega)] at h
    by_cases m : k = 2 ∧ 0 ≤ i ∧ i < c ∧ 0 ≤ r ∧ r < 3
    · rw [if_pos m] at h
      simp only [Prod.mk.injEq, and_true] at h
      omega
    · rw [if_neg m] at h
      by_cases m : k = 3 ∧ 0 ≤ i ∧ i < l ∧ r = 0
      · rw [if_pos m] at h
        simp only [Prod.mk.injEq, and_true] at h
        omega
      · rw [if_neg m] at h
        by_cases m : k = 4 ∧ 0 ≤ i ∧ i < c ∧ r = 0
        · rw [if_pos m] at h
          simp only [Prod.mk.injEq, and_true] at h
          omega
        · rw [if_neg m] at h
          simp at h
  · rw [if_neg hr] at h
    simp at h

theorem enc_false (c w l k i r a : Int) (h : enc c w l k i r = (a, false)) : a = 0 := by
  unfold enc at h
  repeat' split at h
  all_goals (simp at h; try omega)

/-- What the scan from an address on comes to: the address of the spot, if it is from there on. -/
theorem scan_eq (c w l k i r : Int) (k1 : k ≠ 1) (d : Nat) : ∀ (n : Nat) (x : Int), 65536 ≤ x → 66056 - x = d → d + 100 < n → (∀ a, enc c w l k i r = (a, true) → x ≤ a) →
    switchyardref08_Encode.l0 n x c w l k i r = some (enc c w l k i r) := by
  induction d with
  | zero =>
    intro n x h0 h1 hn hx
    obtain ⟨n, rfl⟩ : ∃ m, n = m + 1 := ⟨n - 1, by omega⟩
    simp only [switchyardref08_Encode.l0]
    rw [if_neg (by omega)]
    rcases he : enc c w l k i r with ⟨a, b⟩
    cases b with
    | true => have := enc_range _ _ _ _ _ _ _ he k1; have := hx a he; omega
    | false => rw [enc_false _ _ _ _ _ _ _ he]
  | succ d ih =>
    intro n x h0 h1 hn hx
    obtain ⟨n, rfl⟩ : ∃ m, n = m + 1 := ⟨n - 1, by omega⟩
    simp only [switchyardref08_Encode.l0]
    rw [if_pos (by omega), rdec_eq c w l x n (by omega)]
    have e1 : wrap64 (x + 1) = x + 1 := by unfold wrap64; omega
    simp only [Option.bind_some]
    rw [e1]
    by_cases hx' : enc c w l k i r = (x, true)
    · have hd := (dec_enc c w l x k i r h0).2 ⟨k1, hx'⟩
      rw [hd, hx']
      simp
    · have step := ih n (x + 1) (by omega) (by omega) (by omega) (fun a ha => by
        have := hx a ha
        by_cases e : a = x
        · subst e; exact absurd ha hx'
        · omega)
      rw [step]
      by_cases hb : (dec c w l x).2.2.2 = true
      · rw [if_pos hb, if_neg ?_]
        intro hh
        apply hx'
        refine ((dec_enc c w l x k i r h0).1 ?_).2
        simp only [Bool.and_eq_true, beq_iff_eq] at hh
        obtain ⟨q1, q2, q3⟩ := hh
        rcases hq : dec c w l x with ⟨p1, p2, p3, p4⟩
        rw [hq] at hb q1 q2 q3
        simp only at hb q1 q2 q3
        rw [hb, q1, q2, q3]
      · rw [if_neg hb]

theorem dec_one (c w l i r : Int) : (dec c w l r = (1, i, r, true)) ↔ enc c w l 1 i r = (r, true) := by
  unfold dec enc
  by_cases hr : Rt c w l
  · rw [if_pos hr, if_pos hr]
    by_cases h : 0 ≤ r ∧ r < w
    · rw [if_pos h]
      by_cases hi : i = 0
      · rw [if_pos (by omega), hi]; simp
      · rw [if_neg (by omega), if_neg (by omega), if_neg (by omega), if_neg (by omega)]
        simp only [Prod.mk.injEq, and_true, true_and]
        constructor
        · intro q; omega
        · intro q; simp at q
    · rw [if_neg h, if_neg (c := 1 = 1 ∧ i = 0 ∧ 0 ≤ r ∧ r < w) (by omega), if_neg (c := (1 : Int) = 2 ∧ 0 ≤ i ∧ i < c ∧ 0 ≤ r ∧ r < 3) (by omega), if_neg (c := (1 : Int) = 3 ∧ 0 ≤ i ∧ i < l ∧ r = 0) (by omega), if_neg (c := (1 : Int) = 4 ∧ 0 ≤ i ∧ i < c ∧ r = 0) (by omega)]
      constructor
      · intro q
        repeat' split at q
        all_goals simp at q
      · intro q; simp at q
  · rw [if_neg hr, if_neg hr]
    simp

theorem enc_one (c w l i r : Int) : enc c w l 1 i r = (r, true) ∨ enc c w l 1 i r = (0, false) := by
  unfold enc
  by_cases hr : Rt c w l
  · rw [if_pos hr]
    by_cases h : (1 : Int) = 1 ∧ i = 0 ∧ 0 ≤ r ∧ r < w
    · rw [if_pos h]; exact .inl rfl
    · rw [if_neg h, if_neg (by omega), if_neg (by omega), if_neg (by omega)]; exact .inr rfl
  · rw [if_neg hr]; exact .inr rfl

theorem renc_eq (c w l k i r : Int) (n : Nat) (hn : 700 ≤ n) : switchyardref08_Encode.f n c w l k i r = some (enc c w l k i r) := by
  unfold switchyardref08_Encode.f
  by_cases k1 : k = 1
  · subst k1
    rw [if_pos rfl, rdec_eq c w l r n (by omega)]
    simp only [Option.bind_some]
    by_cases hd : dec c w l r = (1, i, r, true)
    · rw [(dec_one c w l i r).1 hd, hd]
      simp
    · have he : enc c w l 1 i r = (0, false) := by
        rcases enc_one c w l i r with h | h
        · exact absurd ((dec_one c w l i r).2 h) hd
        · exact h
      rw [he]
      by_cases hb : (dec c w l r).2.2.2 = true
      · rw [if_pos hb, if_neg ?_]
        intro hh
        apply hd
        simp only [Bool.and_eq_true, beq_iff_eq] at hh
        obtain ⟨q1, q2, q3⟩ := hh
        rcases hq : dec c w l r with ⟨p1, p2, p3, p4⟩
        rw [hq] at hb q1 q2 q3
        simp only at hb q1 q2 q3
        rw [hb, q1, q2, q3]
      · rw [if_neg hb]
  · rw [if_neg k1]
    refine scan_eq c w l k i r k1 520 n 65536 (by omega) (by omega) (by omega) (fun a ha => (enc_range _ _ _ _ _ _ _ ha k1).1)

theorem bounds (n : Int) (h : (Lit.int .i64 n).wf = true) : -9223372036854775808 ≤ n ∧ n ≤ 9223372036854775807 := by
  simp [Lit.wf, IntKind.min, IntKind.max, IntKind.signed, IntKind.bits] at h
  omega

theorem alive_true : switchyardlaw08_alive.f = some true := by decide +kernel

theorem law (c w l k i r : Int) (hc : (Lit.int .i64 c).wf = true) (hw : (Lit.int .i64 w).wf = true) (hl : (Lit.int .i64 l).wf = true) : switchyardlaw08_SiteEncodes.f 700 c w l k i r = some true := by
  unfold switchyardlaw08_SiteEncodes.f
  rw [enc_eq c w l k i r (bounds c hc) (bounds w hw) (bounds l hl)]
  unfold switchyardlaw08_plan.f
  simp only [Option.bind_some]
  rw [renc_eq c w l k i r 700 (by omega), alive_true]
  simp

end Go.Proofs.Ytlkllpemhneaaaa.PureEncodes
