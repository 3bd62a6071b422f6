/- GrantPlays, the plain law: the reference's table is the program's. -/
import Derived.Test.YtgkjiemjghmgmaaDo
import Derived.Test.YtgkjiemjghmgmaaPGrantPlaysx1
import Derived.Test.YtgkjiemjghmgmaaPGrantPlaysx2
namespace Go.Proofs.Ytgkjiemjghmgmaa.Grants
set_option linter.unusedVariables false
set_option linter.unusedSimpArgs false
open Go.RowKit Go.Proofs.Ytgkjiemjghmgmaa.PGrantPlays Go.Proofs.YtgkjiemjghmgmaaW.PrintWords

/-- The reference's slots. -/
def absT (k : Tb) : List S56 := (List.range k.n.toNat).map fun j => ⟨k.gens.getD j 0, k.held.getD j false⟩

theorem abs_len (k : Tb) : (absT k).length = k.n.toNat := by simp [absT]
theorem abs_at (k : Tb) (i : Int) (h0 : 0 ≤ i) (h1 : i < k.n) : rd_T56 (absT k) i = ⟨k.gens.getD i.toNat 0, k.held.getD i.toNat false⟩ := by
  unfold rd_T56 absT
  simp [List.getD_eq_getElem?_getD, show i.toNat < k.n.toNat by omega]
theorem abs_ext (k : Tb) (l : List S56) (hl : l.length = k.n.toNat) (h : ∀ j, j < k.n.toNat → l[j]? = some ⟨k.gens.getD j 0, k.held.getD j false⟩) : l = absT k := by
  apply List.ext_getElem?
  intro j
  by_cases hj : j < k.n.toNat
  · rw [h j hj]
    simp [absT, hj]
  · rw [List.getElem?_eq_none (by omega), List.getElem?_eq_none (by rw [abs_len]; omega)]

theorem hold_at {k : Tb} (ok : k.Ok) (j m : Nat) (x : Bool) (hj : j < 64) : (k.hold j x).held.getD m false = if j = m then x else k.held.getD m false := by
  have := ok.lh
  unfold Tb.hold
  simp only [List.getD_eq_getElem?_getD, List.getElem?_set]
  by_cases h : j = m
  · subst h
    rw [if_pos rfl, if_pos rfl, if_pos (by omega)]
    rfl
  · rw [if_neg h, if_neg h]
theorem gen_at {k : Tb} (ok : k.Ok) (j m : Nat) (x : Int) (hj : j < 64) : (k.gen j x).gens.getD m 0 = if j = m then x else k.gens.getD m 0 := by
  have := ok.lg
  unfold Tb.gen
  simp only [List.getD_eq_getElem?_getD, List.getElem?_set]
  by_cases h : j = m
  · subst h
    rw [if_pos rfl, if_pos rfl, if_pos (by omega)]
    rfl
  · rw [if_neg h, if_neg h]

theorem abs_set (k k' : Tb) (hc : k'.n = k.n) (j : Nat) (hj : j < k.n.toNat) (x : S56)
    (he : ∀ m, m < k.n.toNat → k'.gens.getD m 0 = if j = m then x.f0 else k.gens.getD m 0) (hh : ∀ m, m < k.n.toNat → k'.held.getD m false = if j = m then x.f1 else k.held.getD m false) : (absT k).set j x = absT k' := by
  apply abs_ext
  · rw [List.length_set, abs_len, hc]
  · intro m hm
    rw [hc] at hm
    rw [he m hm, hh m hm, List.getElem?_set]
    by_cases e : j = m
    · subst e
      rw [if_pos rfl, if_pos (by rw [abs_len]; exact hm), if_pos rfl, if_pos rfl]
    · rw [if_neg e, if_neg e, if_neg e]
      simp [absT, hm]

theorem word_eq (x : Int) (h0 : 0 ≤ x) : switchyardref01_Word.f x = some (x % 65536) := by
  unfold switchyardref01_Word.f
  rw [Int.tmod_eq_emod_of_nonneg h0, if_neg (by omega)]
theorem radd_eq (x y : Int) (h0 : 0 ≤ x) (h1 : 0 ≤ y) (hx : x ≤ 65535) (hy : y ≤ 65535) : switchyardref01_Add.f x y = some ((x + y) % 65536) := by
  unfold switchyardref01_Add.f
  rw [word_eq x h0, word_eq y h1]
  simp only [Option.bind_some]
  have e : wrap64 (x % 65536 + y % 65536) = x + y := by unfold wrap64; omega
  rw [e, word_eq _ (by omega)]
  rfl

theorem rheld_eq (k : Tb) (ok : k.Ok) : switchyardref15_Held.f 70 (absT k) = some (heldR k) := by
  have hc0 := ok.n0
  have hc1 := ok.n1
  have key : ∀ (d K m : Nat), m + d = k.n.toNat → d < K → switchyardref15_Held.l0 K (absT k) (heldTo k.held m) (m : Int) = some (heldTo k.held k.n.toNat) := by
    intro d
    induction d with
    | zero =>
      intro K m hm hK
      obtain ⟨K, rfl⟩ : ∃ q, K = q + 1 := ⟨K - 1, by omega⟩
      simp only [switchyardref15_Held.l0]
      rw [if_neg (by rw [abs_len]; omega)]
      rw [show m = k.n.toNat by omega]
    | succ d ih =>
      intro K m hm hK
      obtain ⟨K, rfl⟩ : ∃ q, K = q + 1 := ⟨K - 1, by omega⟩
      simp only [switchyardref15_Held.l0]
      have e1 : wrap64 ((m : Int) + 1) = ((m + 1 : Nat) : Int) := by unfold wrap64; omega
      have hl := heldTo_len k.held m
      rw [if_pos (by rw [abs_len]; omega), if_pos (by omega), abs_at k _ (by omega) (by omega), e1, Int.toNat_natCast]
      by_cases hx : k.held.getD m false = true
      · rw [if_pos hx, if_pos (by omega), ← heldTo_yes _ _ hx]
        exact ih K (m + 1) (by omega) (by omega)
      · have hx' : k.held.getD m false = false := by simpa using hx
        rw [if_neg hx, ← heldTo_no _ _ hx']
        exact ih K (m + 1) (by omega) (by omega)
  have := key k.n.toNat 70 0 (by omega) (by omega)
  rw [show ((0 : Nat) : Int) = 0 from rfl, heldTo_zero] at this
  exact this

theorem rslot_eq (k : Tb) (ok : k.Ok) (h : Int) : switchyardref15_Slot.f 70 (absT k) h = some (slotR k h) := by
  have hc0 := ok.n0
  have hc1 := ok.n1
  have key : ∀ (d K m : Nat), m + d = k.n.toNat → d < K → (∀ j : Nat, j < m → ¬ (k.held.getD j false = true ∧ k.gens.getD j 0 * 64 + (j : Int) = h)) → switchyardref15_Slot.l0 K (absT k) h (m : Int) = some (slotR k h) := by
    intro d
    induction d with
    | zero =>
      intro K m hm hK hj
      obtain ⟨K, rfl⟩ : ∃ q, K = q + 1 := ⟨K - 1, by omega⟩
      simp only [switchyardref15_Slot.l0]
      rw [if_neg (by rw [abs_len]; omega)]
      have hg : ¬ good k h := fun hg => by
        obtain ⟨g1, g2, g3⟩ := hg
        refine hj (h % 64).toNat (by omega) ⟨g2, ?_⟩
        rw [show ((h % 64).toNat : Int) = h % 64 by omega]
        exact g3
      unfold slotR
      rw [if_neg hg]
    | succ d ih =>
      intro K m hm hK hj
      obtain ⟨K, rfl⟩ : ∃ q, K = q + 1 := ⟨K - 1, by omega⟩
      simp only [switchyardref15_Slot.l0]
      have e1 : wrap64 ((m : Int) + 1) = ((m + 1 : Nat) : Int) := by unfold wrap64; omega
      have hg := ok.get m (by omega)
      have e2 : wrap64 (wrap64 (k.gens.getD m 0 * 64) + (m : Int)) = k.gens.getD m 0 * 64 + (m : Int) := by unfold wrap64; omega
      rw [if_pos (by rw [abs_len]; omega), if_pos (by omega), abs_at k _ (by omega) (by omega), e1, Int.toNat_natCast]
      dsimp only
      rw [e2]
      by_cases hx : k.held.getD m false = true
      · rw [if_pos hx]
        by_cases hy : k.gens.getD m 0 * 64 + (m : Int) = h
        · rw [if_pos hy]
          have hm64 : h % 64 = (m : Int) := by omega
          rw [slot_yes hm64 ⟨by omega, hx, hy⟩]
        · rw [if_neg hy]
          refine ih K (m + 1) (by omega) (by omega) fun j hj' => ?_
          by_cases e : j = m
          · subst e; exact fun q => hy q.2
          · exact hj j (by omega)
      · rw [if_neg hx]
        refine ih K (m + 1) (by omega) (by omega) fun j hj' => ?_
        by_cases e : j = m
        · subst e; exact fun q => hx q.1
        · exact hj j (by omega)
  exact key k.n.toNat 70 0 (by omega) (by omega) (fun j hj => by omega)

/-- The handle that stands x-th, by slots. -/
def handleR (k : Tb) (x : Int) : Int := if x < 0 ∨ ((heldR k).length : Int) ≤ x then x else k.gens.getD (rd (heldR k) x).toNat 0 * 64 + rd (heldR k) x

theorem heldTo_mem (held : List Bool) (m : Nat) (x : Int) (h : x ∈ heldTo held m) : ∃ j : Nat, j < m ∧ x = (j : Int) ∧ held.getD j false = true := by
  unfold heldTo at h
  simp only [List.mem_map, List.mem_filter, List.mem_range] at h
  obtain ⟨j, ⟨h1, h2⟩, h3⟩ := h
  exact ⟨j, h1, h3.symm, h2⟩
theorem rd_mem (l : List Int) (x : Int) (h0 : 0 ≤ x) (h1 : x < l.length) : rd l x ∈ l := by
  unfold rd
  rw [List.getD_eq_getElem?_getD, List.getElem?_eq_getElem (by omega)]
  exact List.getElem_mem _

theorem rhandle_eq (k : Tb) (ok : k.Ok) (x : Int) : switchyardref15_Handle.f 70 (absT k) x = some (handleR k x) := by
  have hc1 := ok.n1
  unfold switchyardref15_Handle.f handleR
  rw [rheld_eq k ok]
  simp only [Option.bind_some]
  by_cases h0 : x < 0
  · rw [if_pos h0, if_pos (.inl h0)]
  · rw [if_neg h0]
    by_cases h1 : x ≥ ((heldR k).length : Int)
    · rw [if_pos h1, if_pos (.inr h1)]
    · rw [if_neg h1, if_pos (by omega), if_pos (by omega), if_neg (show ¬ (x < 0 ∨ ((heldR k).length : Int) ≤ x) by omega)]
      obtain ⟨j, hj, he, hh⟩ := heldTo_mem _ _ _ (rd_mem (heldR k) x (by omega) (by omega))
      rw [he, if_pos (by omega), if_pos (by rw [abs_len]; omega), abs_at k _ (by omega) (by omega), Int.toNat_natCast]
      have hg := ok.get j (by omega)
      have e2 : wrap64 (wrap64 (k.gens.getD j 0 * 64) + (j : Int)) = k.gens.getD j 0 * 64 + (j : Int) := by unfold wrap64; omega
      dsimp only
      rw [e2]

theorem with_eq (k : Tb) (ok : k.Ok) (i e : Int) (x : Bool) (h0 : 0 ≤ i) (h1 : i < k.n) : switchyardref15_with.f (absT k) i e x = some ((absT k).set i.toNat ⟨e, x⟩) := by
  have hc1 := ok.n1
  unfold switchyardref15_with.f
  rw [if_pos (by rw [List.length_nil, Nat.zero_add, abs_len]; omega)]
  simp only [Option.bind_some, List.nil_append]
  rw [if_pos h0, if_pos (by rw [abs_len]; omega)]

theorem ints_eq (l : List Int) (hl : l.length < 99) : switchyardref03_Same.f 100 l l = some true := by
  unfold switchyardref03_Same.f
  rw [if_pos rfl]
  have key : ∀ (d K m : Nat), m + d = l.length → d < K → switchyardref03_Same.l0 K l l (m : Int) = some true := by
    intro d
    induction d with
    | zero =>
      intro K m hm hK
      obtain ⟨K, rfl⟩ : ∃ q, K = q + 1 := ⟨K - 1, by omega⟩
      simp only [switchyardref03_Same.l0]
      rw [if_neg (by omega)]
    | succ d ih =>
      intro K m hm hK
      obtain ⟨K, rfl⟩ : ∃ q, K = q + 1 := ⟨K - 1, by omega⟩
      simp only [switchyardref03_Same.l0]
      have e1 : wrap64 ((m : Int) + 1) = ((m + 1 : Nat) : Int) := by unfold wrap64; omega
      rw [if_pos (by omega), if_pos (by omega), if_pos (by omega), if_pos trivial, e1]
      exact ih K (m + 1) (by omega) (by omega)
  exact key l.length 100 0 (by omega) (by omega)

theorem new_abs (c : Int) (h : isNew c) : absT (newTb c) = List.replicate c.toNat z56 := by
  symm
  apply abs_ext
  · rw [List.length_replicate]; rfl
  · intro j hj
    have hj' : j < c.toNat := hj
    have e1 : (newTb c).gens.getD j 0 = 0 := by
      unfold newTb
      simp only [List.getD_eq_getElem?_getD, List.getElem?_replicate]
      split <;> rfl
    have e2 : (newTb c).held.getD j false = false := by
      unfold newTb
      simp only [List.getD_eq_getElem?_getD, List.getElem?_replicate]
      split <;> rfl
    rw [e1, e2, List.getElem?_replicate, if_pos hj']
    rfl

/-- With the first m slots held no more. -/
def Tb.less (k : Tb) (m : Nat) : Tb := { k with held := List.replicate m false ++ k.held.drop m }
theorem less_held (k : Tb) (ok : k.Ok) (m j : Nat) (hm : m ≤ 64) : (k.less m).held.getD j false = if j < m then false else k.held.getD j false := by
  have := ok.lh
  unfold Tb.less
  simp only [List.getD_eq_getElem?_getD]
  by_cases h : j < m
  · rw [if_pos h, List.getElem?_append_left (by simpa using h), List.getElem?_replicate, if_pos h]
    rfl
  · rw [if_neg h, List.getElem?_append_right (by simp; omega), List.length_replicate, List.getElem?_drop, show m + (j - m) = j by omega]
theorem less_ok {k : Tb} (ok : k.Ok) (m : Nat) (hm : m ≤ 64) : (k.less m).Ok :=
  ⟨ok.n0, ok.n1, ok.lg, by have := ok.lh; simp [Tb.less]; omega, ok.rng⟩
theorem less_zero (k : Tb) : k.less 0 = k := by simp [Tb.less]
theorem abs_less (k : Tb) (ok : k.Ok) (m : Nat) (hm : m < k.n.toNat) : (absT (k.less m)).set m ⟨k.gens.getD m 0, false⟩ = absT (k.less (m + 1)) := by
  have hn := ok.n1
  refine abs_set (k.less m) (k.less (m + 1)) rfl m hm _ (fun j hj => ?_) fun j hj => ?_
  · by_cases e : m = j
    · subst e; rw [if_pos rfl]; rfl
    · rw [if_neg e]; rfl
  · rw [less_held k ok (m + 1) j (by omega), less_held k ok m j (by omega)]
    by_cases e : m = j
    · subst e; rw [if_pos rfl, if_pos (by omega)]
    · rw [if_neg e]
      by_cases h : j < m
      · rw [if_pos (by omega), if_pos h]
      · rw [if_neg (by omega), if_neg h]
theorem abs_none (k : Tb) (ok : k.Ok) : absT (k.less k.n.toNat) = absT k.none_ := by
  have hn := ok.n1
  apply abs_ext
  · rw [abs_len]; rfl
  · intro j hj
    have hj' : j < k.n.toNat := hj
    have e : k.none_.held.getD j false = false := by
      unfold Tb.none_
      simp only [List.getD_eq_getElem?_getD, List.getElem?_replicate]
      split <;> rfl
    rw [e]
    have e2 := less_held k ok k.n.toNat j (by omega)
    rw [if_pos hj'] at e2
    have hlt : j < (k.less k.n.toNat).n.toNat := hj'
    simp only [absT, List.getElem?_map, List.getElem?_range hlt, Option.map_some, e2]
    rfl

/-- What the reference's Do tells. -/
def rdoR (k : Tb) (kind x : Int) : Tb × Int × Int := if kind = 3 then doR k 1 (handleR k x) else doR k kind x

end Go.Proofs.Ytgkjiemjghmgmaa.Grants
