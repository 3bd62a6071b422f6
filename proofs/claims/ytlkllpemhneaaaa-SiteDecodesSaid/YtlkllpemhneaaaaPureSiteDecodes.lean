/- The plain law of SiteDecodes: what the printed functions tell at any plan and any address, program's and reference's, is one and the same. -/
import Derived.Test.YtlkllpemhneaaaaPSiteDecodesx4
namespace Go.Proofs.Ytlkllpemhneaaaa.PureDecodes
set_option linter.unusedVariables false
set_option linter.unusedSimpArgs false
open Go.RowKit Go.Proofs.Ytlkllpemhneaaaa.PSiteDecodes Go.Proofs.YtlkllpemhneaaaaW.PrintWords Go.Proofs.YtlkllpemhneaaaaW.PrintLast

/-- A plan is right. -/
def Rt (c w l : Int) : Prop := 1 ≤ c ∧ c ≤ 8 ∧ 1 ≤ w ∧ w ≤ 65536 ∧ 1 ≤ l ∧ l ≤ 16
instance (c w l : Int) : Decidable (Rt c w l) := by unfold Rt; infer_instance

theorem below_eq (a b : Int) : site_below.f a b = some (decide (0 ≤ a ∧ a < b)) := by
  unfold site_below.f
  by_cases h : a ≥ 0
  · rw [if_pos h]; simp [h]
  · rw [if_neg h]; simp; omega

theorem dec_of {p q : Prop} [Decidable p] [Decidable q] (h : p ↔ q) : (some (decide p) : Option Bool) = some (decide q) := by
  congr 1
  rw [Bool.eq_iff_iff, decide_eq_true_iff, decide_eq_true_iff]
  exact h

theorem dec_no {q : Prop} [Decidable q] (h : ¬ q) : (some false : Option Bool) = some (decide q) := by rw [decide_eq_false h]

theorem right_eq (c w l : Int) (hc : -9223372036854775808 ≤ c ∧ c ≤ 9223372036854775807) (hw : -9223372036854775808 ≤ w ∧ w ≤ 9223372036854775807) (hl : -9223372036854775808 ≤ l ∧ l ≤ 9223372036854775807) :
    site_Right.f c w l = some (decide (Rt c w l)) := by
  unfold site_Right.f
  simp only [below_eq, Option.bind_some]
  have e1 : (0 ≤ wrap64 (c - 1) ∧ wrap64 (c - 1) < 8) ↔ (1 ≤ c ∧ c ≤ 8) := by unfold wrap64; omega
  have e2 : (0 ≤ wrap64 (w - 1) ∧ wrap64 (w - 1) < 65536) ↔ (1 ≤ w ∧ w ≤ 65536) := by unfold wrap64; omega
  have e3 : (0 ≤ wrap64 (l - 1) ∧ wrap64 (l - 1) < 16) ↔ (1 ≤ l ∧ l ≤ 16) := by unfold wrap64; omega
  simp only [e1, e2, e3, decide_eq_true_eq]
  by_cases h1 : 1 ≤ c ∧ c ≤ 8
  · rw [if_pos h1]
    by_cases h2 : 1 ≤ w ∧ w ≤ 65536
    · rw [if_pos h2]; exact dec_of (by unfold Rt; omega)
    · rw [if_neg h2]; exact dec_no (by unfold Rt; omega)
  · rw [if_neg h1]; exact dec_no (by unfold Rt; omega)

/-- The address of a spot. -/
def enc (c w l k i r : Int) : Int × Bool :=
  if Rt c w l then
    if k = 1 ∧ i = 0 ∧ 0 ≤ r ∧ r < w then (r, true)
    else if k = 2 ∧ 0 ≤ i ∧ i < c ∧ 0 ≤ r ∧ r < 3 then (65536 + 16 * i + r, true)
    else if k = 3 ∧ 0 ≤ i ∧ i < l ∧ r = 0 then (65792 + i, true)
    else if k = 4 ∧ 0 ≤ i ∧ i < c ∧ r = 0 then (66048 + i, true)
    else (0, false)
  else (0, false)

theorem enc_eq (c w l k i r : Int) (hc : -9223372036854775808 ≤ c ∧ c ≤ 9223372036854775807) (hw : -9223372036854775808 ≤ w ∧ w ≤ 9223372036854775807) (hl : -9223372036854775808 ≤ l ∧ l ≤ 9223372036854775807) :
    site_Encode.f c w l k i r = some (enc c w l k i r) := by
  unfold site_Encode.f enc
  simp only [below_eq, right_eq c w l hc hw hl, Option.bind_some, decide_eq_true_eq]
  by_cases hr : Rt c w l
  · simp only [if_pos hr]
    obtain ⟨r1, r2, r3, r4, r5, r6⟩ := hr
    by_cases k1 : k = 1
    · subst k1
      simp only [if_true]
      by_cases hi : i = 0
      · rw [if_pos hi]
        by_cases h : 0 ≤ r ∧ r < w
        · rw [if_pos h, if_pos ⟨trivial, hi, h⟩]
        · rw [if_neg h, if_neg (by omega), if_neg (by omega), if_neg (by omega), if_neg (by omega)]
      · rw [if_neg hi, if_neg (by omega), if_neg (by omega), if_neg (by omega), if_neg (by omega)]
    · rw [if_neg k1]
      by_cases k2 : k = 2
      · subst k2
        simp only [if_true]
        by_cases hi : 0 ≤ i ∧ i < c
        · rw [if_pos hi]
          by_cases h : 0 ≤ r ∧ r < 3
          · rw [if_pos h, if_neg (by omega), if_pos ⟨trivial, hi.1, hi.2, h⟩]
            have e : wrap64 (wrap64 (65536 + wrap64 (16 * i)) + r) = 65536 + 16 * i + r := by unfold wrap64; omega
            rw [e]
          · rw [if_neg h, if_neg (by omega), if_neg (by omega), if_neg (by omega), if_neg (by omega)]
        · rw [if_neg hi, if_neg (by omega), if_neg (by omega), if_neg (by omega), if_neg (by omega)]
      · rw [if_neg k2]
        by_cases k3 : k = 3
        · subst k3
          simp only [if_true]
          by_cases hi : 0 ≤ i ∧ i < l
          · rw [if_pos hi]
            by_cases h : r = 0
            · rw [if_pos h, if_neg (by omega), if_neg (by omega), if_pos ⟨trivial, hi.1, hi.2, h⟩]
              have e : wrap64 (65792 + i) = 65792 + i := by unfold wrap64; omega
              rw [e]
            · rw [if_neg h, if_neg (by omega), if_neg (by omega), if_neg (by omega), if_neg (by omega)]
          · rw [if_neg hi, if_neg (by omega), if_neg (by omega), if_neg (by omega), if_neg (by omega)]
        · rw [if_neg k3]
          by_cases k4 : k = 4
          · subst k4
            simp only [if_true]
            by_cases hi : 0 ≤ i ∧ i < c
            · rw [if_pos hi]
              by_cases h : r = 0
              · rw [if_pos h, if_neg (by omega), if_neg (by omega), if_neg (by omega), if_pos ⟨trivial, hi.1, hi.2, h⟩]
                have e : wrap64 (66048 + i) = 66048 + i := by unfold wrap64; omega
                rw [e]
              · rw [if_neg h, if_neg (by omega), if_neg (by omega), if_neg (by omega), if_neg (by omega)]
            · rw [if_neg hi, if_neg (by omega), if_neg (by omega), if_neg (by omega), if_neg (by omega)]
          · rw [if_neg k4, if_neg (by omega), if_neg (by omega), if_neg (by omega), if_neg (by omega)]
  · simp only [if_neg hr]
    repeat' split
    all_goals rfl

/-- What stands at an address. -/
def dec (c w l a : Int) : Int × Int × Int × Bool :=
  if Rt c w l then
    if 0 ≤ a ∧ a < w then (1, 0, a, true)
    else if 65536 ≤ a ∧ a < 65536 + 16 * c ∧ (a - 65536) % 16 < 3 then (2, (a - 65536) / 16, (a - 65536) % 16, true)
    else if 65792 ≤ a ∧ a < 65792 + l then (3, a - 65792, 0, true)
    else if 66048 ≤ a ∧ a < 66048 + c then (4, a - 66048, 0, true)
    else (0, 0, 0, false)
  else (0, 0, 0, false)

/-- What stands at an address has it, and at the address of a spot it stands. -/
theorem dec_enc (c w l a k i r : Int) : dec c w l a = (k, i, r, true) ↔ enc c w l k i r = (a, true) := by
  unfold dec enc
  by_cases hr : Rt c w l
  · simp only [if_pos hr]
    obtain ⟨r1, r2, r3, r4, r5, r6⟩ := hr
    constructor
    · intro h
      by_cases m : 0 ≤ a ∧ a < w
      · rw [if_pos m] at h
        simp only [Prod.mk.injEq, and_true] at h
        obtain ⟨rfl, rfl, rfl⟩ := h
        rw [if_pos (by omega)]
      · rw [if_neg m] at h
        by_cases m : 65536 ≤ a ∧ a < 65536 + 16 * c ∧ (a - 65536) % 16 < 3
        · rw [if_pos m] at h
          simp only [Prod.mk.injEq, and_true] at h
          obtain ⟨rfl, rfl, rfl⟩ := h
          rw [if_neg (by omega), if_pos (by omega)]
          simp only [Prod.mk.injEq, and_true]
          omega
        · rw [if_neg m] at h
          by_cases m : 65792 ≤ a ∧ a < 65792 + l
          · rw [if_pos m] at h
            simp only [Prod.mk.injEq, and_true] at h
            obtain ⟨rfl, rfl, rfl⟩ := h
            rw [if_neg (by omega), if_neg (by omega), if_pos (by omega)]
            simp only [Prod.mk.injEq, and_true]
            omega
          · rw [if_neg m] at h
            by_cases m : 66048 ≤ a ∧ a < 66048 + c
            · rw [if_pos m] at h
              simp only [Prod.mk.injEq, and_true] at h
              obtain ⟨rfl, rfl, rfl⟩ := h
              rw [if_neg (by omega), if_neg (by omega), if_neg (by omega), if_pos (by omega)]
              simp only [Prod.mk.injEq, and_true]
              omega
            · rw [if_neg m] at h
              simp at h
    · intro h
      by_cases m : k = 1 ∧ i = 0 ∧ 0 ≤ r ∧ r < w
      · rw [if_pos m] at h
        simp only [Prod.mk.injEq, and_true] at h
        rw [if_pos (by omega)]
        simp only [Prod.mk.injEq, and_true, true_and]
        omega
      · rw [if_neg m] at h
        by_cases m : k = 2 ∧ 0 ≤ i ∧ i < c ∧ 0 ≤ r ∧ r < 3
        · rw [if_pos m] at h
          simp only [Prod.mk.injEq, and_true] at h
          rw [if_neg (by omega), if_pos (by omega)]
          simp only [Prod.mk.injEq, and_true, true_and]
          omega
        · rw [if_neg m] at h
          by_cases m : k = 3 ∧ 0 ≤ i ∧ i < l ∧ r = 0
          · rw [if_pos m] at h
            simp only [Prod.mk.injEq, and_true] at h
            rw [if_neg (by omega), if_neg (by omega), if_pos (by omega)]
            simp only [Prod.mk.injEq, and_true, true_and]
            omega
          · rw [if_neg m] at h
            by_cases m : k = 4 ∧ 0 ≤ i ∧ i < c ∧ r = 0
            · rw [if_pos m] at h
              simp only [Prod.mk.injEq, and_true] at h
              rw [if_neg (by omega), if_neg (by omega), if_neg (by omega), if_pos (by omega)]
              simp only [Prod.mk.injEq, and_true, true_and]
              omega
            · rw [if_neg m] at h
              simp at h
  · simp only [if_neg hr]
    simp

theorem enc_true (c w l k i r a : Int) (h : enc c w l k i r = (a, true)) : 1 ≤ c ∧ c ≤ 8 ∧ 1 ≤ w ∧ w ≤ 65536 ∧ 1 ≤ l ∧ l ≤ 16 ∧
    ((k = 1 ∧ i = 0 ∧ 0 ≤ r ∧ r < w ∧ a = r) ∨ (k = 2 ∧ 0 ≤ i ∧ i < c ∧ 0 ≤ r ∧ r < 3 ∧ a = 65536 + 16 * i + r) ∨ (k = 3 ∧ 0 ≤ i ∧ i < l ∧ r = 0 ∧ a = 65792 + i) ∨ (k = 4 ∧ 0 ≤ i ∧ i < c ∧ r = 0 ∧ a = 66048 + i)) := by
  unfold enc at h
  by_cases hr : Rt c w l
  · rw [if_pos hr] at h
    unfold Rt at hr
    by_cases m : k = 1 ∧ i = 0 ∧ 0 ≤ r ∧ r < w
    · rw [if_pos m] at h; simp only [Prod.mk.injEq, and_true] at h; omega
    · rw [if_neg m] at h
      by_cases m : k = 2 ∧ 0 ≤ i ∧ i < c ∧ 0 ≤ r ∧ r < 3
      · rw [if_pos m] at h; simp only [Prod.mk.injEq, and_true] at h; omega
      · rw [if_neg m] at h
        by_cases m : k = 3 ∧ 0 ≤ i ∧ i < l ∧ r = 0
        · rw [if_pos m] at h; simp only [Prod.mk.injEq, and_true] at h; omega
        · rw [if_neg m] at h
          by_cases m : k = 4 ∧ 0 ≤ i ∧ i < c ∧ r = 0
          · rw [if_pos m] at h; simp only [Prod.mk.injEq, and_true] at h; omega
          · rw [if_neg m] at h; simp at h
  · rw [if_neg hr] at h; simp at h

theorem enc_kind (c w l k i r a : Int) (h : enc c w l k i r = (a, true)) : 1 ≤ k ∧ k ≤ 4 := by
  have := enc_true _ _ _ _ _ _ _ h
  omega

theorem enc_false (c w l k i r a : Int) (h : enc c w l k i r = (a, false)) : a = 0 := by
  unfold enc at h
  repeat' split at h
  all_goals (simp at h; try omega)

theorem enc_range (c w l k i r a : Int) (h : enc c w l k i r = (a, true)) : 0 ≤ a ∧ a < 66056 := by
  have := enc_true _ _ _ _ _ _ _ h
  omega

theorem dec_false (c w l a k i r : Int) (h : dec c w l a = (k, i, r, false)) : k = 0 ∧ i = 0 ∧ r = 0 := by
  unfold dec at h
  repeat' split at h
  all_goals (simp at h; try omega)

theorem sdec_eq (c w l a : Int) (hc : -9223372036854775808 ≤ c ∧ c ≤ 9223372036854775807) (hw : -9223372036854775808 ≤ w ∧ w ≤ 9223372036854775807) (hl : -9223372036854775808 ≤ l ∧ l ≤ 9223372036854775807) (ha : -9223372036854775808 ≤ a ∧ a ≤ 9223372036854775807) :
    site_Decode.f c w l a = some (dec c w l a) := by
  obtain ⟨k, i, r, hg, hn⟩ : ∃ k i r, site_guess.f a = some (k, i, r) ∧ ∀ k' i' r', enc c w l k' i' r' = (a, true) → k' = k ∧ i' = i ∧ r' = r := by
    unfold site_guess.f
    by_cases h1 : a < 65536
    · rw [if_pos h1]
      refine ⟨_, _, _, rfl, fun k' i' r' h => ?_⟩
      have h := enc_true _ _ _ _ _ _ _ h
      omega
    · rw [if_neg h1]
      have e1 : wrap64 (a - 65536) = a - 65536 := by unfold wrap64; omega
      have e2 : wrap64 (a - 65792) = a - 65792 := by unfold wrap64; omega
      have e3 : wrap64 (a - 66048) = a - 66048 := by unfold wrap64; omega
      have e4 : Int.tdiv (a - 65536) 16 = (a - 65536) / 16 := Int.tdiv_eq_ediv_of_nonneg (by omega)
      have e5 : Int.tmod a 16 = a % 16 := Int.tmod_eq_emod_of_nonneg (by omega)
      have e6 : wrap64 ((a - 65536) / 16) = (a - 65536) / 16 := by unfold wrap64; omega
      rw [e1, e2, e3, e4, e5, e6]
      by_cases h2 : a < 65792
      · rw [if_pos h2]
        refine ⟨_, _, _, rfl, fun k' i' r' h => ?_⟩
        have h := enc_true _ _ _ _ _ _ _ h
        omega
      · rw [if_neg h2]
        by_cases h3 : a < 66048
        · rw [if_pos h3]
          refine ⟨_, _, _, rfl, fun k' i' r' h => ?_⟩
          have h := enc_true _ _ _ _ _ _ _ h
          omega
        · rw [if_neg h3]
          refine ⟨_, _, _, rfl, fun k' i' r' h => ?_⟩
          have h := enc_true _ _ _ _ _ _ _ h
          omega
  have hga : ∀ x b, enc c w l k i r = (x, b) → b = true → x = a := by
    intro x b he hb
    subst hb
    unfold site_guess.f at hg
    have he := enc_true _ _ _ _ _ _ _ he
    have e1 : 65536 ≤ a → wrap64 (a - 65536) = a - 65536 := by unfold wrap64; omega
    have e2 : 65536 ≤ a → wrap64 (a - 65792) = a - 65792 := by unfold wrap64; omega
    have e3 : 65536 ≤ a → wrap64 (a - 66048) = a - 66048 := by unfold wrap64; omega
    have e4 : 65536 ≤ a → Int.tdiv (a - 65536) 16 = (a - 65536) / 16 := fun h => Int.tdiv_eq_ediv_of_nonneg (by omega)
    have e5 : 65536 ≤ a → Int.tmod a 16 = a % 16 := fun h => Int.tmod_eq_emod_of_nonneg (by omega)
    have e6 : 65536 ≤ a → wrap64 ((a - 65536) / 16) = (a - 65536) / 16 := by unfold wrap64; omega
    by_cases h0 : 65536 ≤ a
    · rw [e1 h0, e2 h0, e3 h0, e4 h0, e5 h0, e6 h0] at hg
      repeat' split at hg
      all_goals
        simp only [Option.some.injEq, Prod.mk.injEq] at hg
        omega
    · rw [if_pos (by omega)] at hg
      simp only [Option.some.injEq, Prod.mk.injEq] at hg
      omega
  unfold site_Decode.f
  rw [hg]
  simp only [Option.bind_some]
  rw [enc_eq c w l k i r hc hw hl]
  simp only [Option.bind_some]
  rcases he : enc c w l k i r with ⟨x, b⟩
  cases b with
  | true =>
    have := hga x true he rfl
    subst this
    rw [(dec_enc c w l x k i r).2 he]
    simp
  | false =>
    rcases hd : dec c w l a with ⟨k', i', r', b'⟩
    cases b' with
    | true =>
      have h1 := (dec_enc c w l a k' i' r').1 hd
      obtain ⟨rfl, rfl, rfl⟩ := hn _ _ _ h1
      rw [he] at h1
      simp at h1
    | false =>
      obtain ⟨rfl, rfl, rfl⟩ := dec_false _ _ _ _ _ _ _ hd
      simp

theorem bounds (n : Int) (h : (Lit.int .i64 n).wf = true) : -9223372036854775808 ≤ n ∧ n ≤ 9223372036854775807 := by
  simp [Lit.wf, IntKind.min, IntKind.max, IntKind.signed, IntKind.bits] at h
  omega

theorem alive_true : switchyardlaw08_alive.f = some true := by decide +kernel

theorem rright_eq (c w l : Int) : switchyardref08_Right.f c w l = some (decide (Rt c w l)) := by
  unfold switchyardref08_Right.f
  repeat' split
  all_goals first | exact dec_of (by unfold Rt; omega) | exact dec_no (by unfold Rt; omega)

theorem l2_eq (l a c w : Int) (hl : l ≤ 16) (d : Nat) : ∀ (k : Nat) (i : Int), 0 ≤ i → l - i = d → d < k →
    switchyardref08_Decode.l2 k a i c w l = some (if 65792 + i ≤ a ∧ a < 65792 + l then (3, a - 65792, 0, true) else (0, 0, 0, false)) := by
  induction d with
  | zero =>
    intro k i h0 h1 hk
    obtain ⟨k, rfl⟩ : ∃ m, k = m + 1 := ⟨k - 1, by omega⟩
    simp only [switchyardref08_Decode.l2]
    rw [if_neg (by omega), if_neg (by omega)]
  | succ d ih =>
    intro k i h0 h1 hk
    obtain ⟨k, rfl⟩ : ∃ m, k = m + 1 := ⟨k - 1, by omega⟩
    simp only [switchyardref08_Decode.l2]
    rw [if_pos (by omega)]
    have e : wrap64 (65792 + i) = 65792 + i := by unfold wrap64; omega
    have e1 : wrap64 (i + 1) = i + 1 := by unfold wrap64; omega
    rw [e, e1]
    by_cases h : a = 65792 + i
    · rw [if_pos h, if_pos (by omega), h]
      have : 65792 + i - 65792 = i := by omega
      rw [this]
    · rw [if_neg h, ih k (i + 1) (by omega) (by omega) (by omega)]
      by_cases h2 : 65792 + i ≤ a ∧ a < 65792 + l
      · rw [if_pos h2, if_pos (by omega)]
      · rw [if_neg h2, if_neg (by omega)]

/-- What the loop over the cores from i on comes to. -/
def from_ (c l a i : Int) : Int × Int × Int × Bool :=
  if 65536 + 16 * i ≤ a ∧ a < 65536 + 16 * c ∧ (a - 65536) % 16 < 3 then (2, (a - 65536) / 16, (a - 65536) % 16, true)
  else if 66048 + i ≤ a ∧ a < 66048 + c then (4, a - 66048, 0, true)
  else if 65792 ≤ a ∧ a < 65792 + l then (3, a - 65792, 0, true) else (0, 0, 0, false)

theorem l1_eq (l a c w i : Int) (hc : c ≤ 8) (h0 : 0 ≤ i) (hi : i < c) (d : Nat) : ∀ (k : Nat) (r : Int), 0 ≤ r → 3 - r = d → d < k →
    switchyardref08_Decode.l1 k a i r c w l = if 65536 + 16 * i + r ≤ a ∧ a < 65536 + 16 * i + 3 then some (2, i, a - 65536 - 16 * i, true) else if a = 66048 + i then some (4, i, 0, true) else switchyardref08_Decode.l0 (k - d - 1) a (i + 1) c w l := by
  induction d with
  | zero =>
    intro k r hr h1 hk
    obtain ⟨k, rfl⟩ : ∃ m, k = m + 1 := ⟨k - 1, by omega⟩
    simp only [switchyardref08_Decode.l1]
    have e : wrap64 (66048 + i) = 66048 + i := by unfold wrap64; omega
    have e1 : wrap64 (i + 1) = i + 1 := by unfold wrap64; omega
    rw [if_neg (by omega), if_neg (c := 65536 + 16 * i + r ≤ a ∧ a < 65536 + 16 * i + 3) (by omega), e, e1]
    rfl
  | succ d ih =>
    intro k r hr h1 hk
    obtain ⟨k, rfl⟩ : ∃ m, k = m + 1 := ⟨k - 1, by omega⟩
    simp only [switchyardref08_Decode.l1]
    rw [if_pos (by omega)]
    have e : wrap64 (wrap64 (65536 + wrap64 (16 * i)) + r) = 65536 + 16 * i + r := by unfold wrap64; omega
    have e1 : wrap64 (r + 1) = r + 1 := by unfold wrap64; omega
    rw [e, e1]
    by_cases h : a = 65536 + 16 * i + r
    · rw [if_pos h, if_pos (by omega)]
      have : a - 65536 - 16 * i = r := by omega
      rw [this]
    · rw [if_neg h, ih k (r + 1) (by omega) (by omega) (by omega)]
      have e2 : k + 1 - (d + 1) - 1 = k - d - 1 := by omega
      rw [e2]
      by_cases h2 : 65536 + 16 * i + r ≤ a ∧ a < 65536 + 16 * i + 3
      · rw [if_pos h2, if_pos (by omega)]
      · rw [if_neg h2, if_neg (by omega)]

theorem l0_eq (l a c w : Int) (hc : c ≤ 8) (hl : 1 ≤ l) (hl' : l ≤ 16) (d : Nat) : ∀ (k : Nat) (i : Int), 0 ≤ i → c - i = d → 5 * d + 20 < k →
    switchyardref08_Decode.l0 k a i c w l = some (from_ c l a i) := by
  induction d with
  | zero =>
    intro k i h0 h1 hk
    obtain ⟨k, rfl⟩ : ∃ m, k = m + 1 := ⟨k - 1, by omega⟩
    simp only [switchyardref08_Decode.l0]
    rw [if_neg (by omega), l2_eq l a c w hl' l.toNat k 0 (by omega) (by omega) (by omega)]
    unfold from_
    rw [if_neg (c := 65536 + 16 * i ≤ a ∧ a < 65536 + 16 * c ∧ (a - 65536) % 16 < 3) (by omega), if_neg (c := 66048 + i ≤ a ∧ a < 66048 + c) (by omega), Int.add_zero]
  | succ d ih =>
    intro k i h0 h1 hk
    obtain ⟨k, rfl⟩ : ∃ m, k = m + 1 := ⟨k - 1, by omega⟩
    simp only [switchyardref08_Decode.l0]
    rw [if_pos (by omega), l1_eq l a c w i hc h0 (by omega) 3 k 0 (by omega) (by omega) (by omega), ih (k - 3 - 1) (i + 1) (by omega) (by omega) (by omega)]
    unfold from_
    by_cases h : 65536 + 16 * i + 0 ≤ a ∧ a < 65536 + 16 * i + 3
    · rw [if_pos h, if_pos (by omega)]
      have e1 : (a - 65536) / 16 = i := by omega
      have e2 : (a - 65536) % 16 = a - 65536 - 16 * i := by omega
      rw [e1, e2]
    · rw [if_neg h]
      by_cases g : a = 66048 + i
      · rw [if_pos g, if_neg (by omega), if_pos (by omega)]
        have : a - 66048 = i := by omega
        rw [this]
      · rw [if_neg g]
        by_cases m : 65536 + 16 * i ≤ a ∧ a < 65536 + 16 * c ∧ (a - 65536) % 16 < 3
        · rw [if_pos m, if_pos (by omega)]
        · rw [if_neg m, if_neg (by omega)]
          by_cases n : 66048 + i ≤ a ∧ a < 66048 + c
          · rw [if_pos n, if_pos (by omega)]
          · rw [if_neg n, if_neg (by omega)]

theorem rdec_eq (c w l a : Int) (k : Nat) (hk : 100 ≤ k) : switchyardref08_Decode.f k c w l a = some (dec c w l a) := by
  unfold switchyardref08_Decode.f dec
  rw [rright_eq]
  simp only [Option.bind_some, decide_eq_true_eq]
  by_cases hr : Rt c w l
  · rw [if_pos hr, if_pos hr]
    obtain ⟨r1, r2, r3, r4, r5, r6⟩ := hr
    obtain ⟨k, rfl⟩ : ∃ m, k = m + 1 := ⟨k - 1, by omega⟩
    simp only [switchyardref08_Decode.j0, decide_eq_true_eq]
    rw [l0_eq l a c w r2 r5 r6 c.toNat k 0 (by omega) (by omega) (by omega)]
    unfold from_
    by_cases h : 0 ≤ a ∧ a < w
    · rw [if_pos h.1, if_pos h.2, if_pos h]
    · rw [if_neg h]
      have e : (if a ≥ 0 then (if a < w then some ((1 : Int), (0 : Int), a, true) else some (if 65536 + 16 * 0 ≤ a ∧ a < 65536 + 16 * c ∧ (a - 65536) % 16 < 3 then (2, (a - 65536) / 16, (a - 65536) % 16, true) else if 66048 + 0 ≤ a ∧ a < 66048 + c then (4, a - 66048, 0, true) else if 65792 ≤ a ∧ a < 65792 + l then (3, a - 65792, 0, true) else (0, 0, 0, false))) else (if false = true then some ((1 : Int), (0 : Int), a, true) else some (if 65536 + 16 * 0 ≤ a ∧ a < 65536 + 16 * c ∧ (a - 65536) % 16 < 3 then (2, (a - 65536) / 16, (a - 65536) % 16, true) else if 66048 + 0 ≤ a ∧ a < 66048 + c then (4, a - 66048, 0, true) else if 65792 ≤ a ∧ a < 65792 + l then (3, a - 65792, 0, true) else (0, 0, 0, false)))) = some (if 65536 + 16 * 0 ≤ a ∧ a < 65536 + 16 * c ∧ (a - 65536) % 16 < 3 then (2, (a - 65536) / 16, (a - 65536) % 16, true) else if 66048 + 0 ≤ a ∧ a < 66048 + c then (4, a - 66048, 0, true) else if 65792 ≤ a ∧ a < 65792 + l then (3, a - 65792, 0, true) else (0, 0, 0, false)) := by
        by_cases g : a ≥ 0
        · rw [if_pos g, if_neg (by omega)]
        · rw [if_neg g, if_neg (by simp)]
      rw [e]
      by_cases m : 65536 ≤ a ∧ a < 65536 + 16 * c ∧ (a - 65536) % 16 < 3
      · rw [if_pos m, if_pos (by omega)]
      · rw [if_neg m, if_neg (by omega)]
        by_cases n : 66048 ≤ a ∧ a < 66048 + c
        · rw [if_pos (by omega), if_neg (by omega), if_pos n]
        · rw [if_neg (by omega)]
          by_cases o : 65792 ≤ a ∧ a < 65792 + l
          · rw [if_pos o, if_pos o]
          · rw [if_neg o, if_neg o, if_neg n]
  · rw [if_neg hr, if_neg hr]


theorem count_eq (c w l : Int) (hc : -9223372036854775808 ≤ c ∧ c ≤ 9223372036854775807) (hw : -9223372036854775808 ≤ w ∧ w ≤ 9223372036854775807) (hl : -9223372036854775808 ≤ l ∧ l ≤ 9223372036854775807) :
    ∃ n, site_Count.f c w l = some n ∧ switchyardref08_Count.f c w l = some n := by
  unfold site_Count.f switchyardref08_Count.f
  rw [right_eq c w l hc hw hl, rright_eq]
  simp only [Option.bind_some, decide_eq_true_eq]
  by_cases h : Rt c w l
  · rw [if_pos h, if_pos h]
    unfold Rt at h
    refine ⟨_, rfl, ?_⟩
    congr 1
    unfold wrap64
    omega
  · rw [if_neg h, if_neg h]
    exact ⟨_, rfl, rfl⟩

end Go.Proofs.Ytlkllpemhneaaaa.PureDecodes
