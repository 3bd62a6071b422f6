/- GatePlays, the plain law: the reference's gate is the program's. -/
import Derived.Test.YtghigbohaifooaaCountsLaw
import Derived.Test.YtghigbohaifooaaPGatePlaysx2
import Derived.Test.YtghigbohaifooaaPGatePlaysx3
namespace Go.Proofs.Ytghigbohaifooaa.Gates
set_option linter.unusedVariables false
set_option linter.unusedSimpArgs false
open Go.RowKit Go.Proofs.Ytghigbohaifooaa.PGatePlays Go.Proofs.YtghigbohaifooaaW.PrintWords

/-- The reference's cores. -/
def absG (k : Gt) : List S48 := (List.range k.cores.toNat).map fun j => ⟨k.eps.getD j 0, k.held.getD j false⟩

theorem abs_len (k : Gt) : (absG k).length = k.cores.toNat := by simp [absG]
theorem abs_at (k : Gt) (i : Int) (h0 : 0 ≤ i) (h1 : i < k.cores) : rd_T48 (absG k) i = ⟨k.eps.getD i.toNat 0, k.held.getD i.toNat false⟩ := by
  unfold rd_T48 absG
  simp [List.getD_eq_getElem?_getD, show i.toNat < k.cores.toNat by omega]
theorem abs_ext (k : Gt) (l : List S48) (hl : l.length = k.cores.toNat) (h : ∀ j, j < k.cores.toNat → l[j]? = some ⟨k.eps.getD j 0, k.held.getD j false⟩) : l = absG k := by
  apply List.ext_getElem?
  intro j
  by_cases hj : j < k.cores.toNat
  · rw [h j hj]
    simp [absG, hj]
  · rw [List.getElem?_eq_none (by omega), List.getElem?_eq_none (by rw [abs_len]; omega)]

/-- Besides: behind the last core is nothing. -/
structure Gt.Fit (k : Gt) : Prop where
  ok : k.Ok
  e0 : ∀ j : Nat, k.cores ≤ (j : Int) → k.eps.getD j 0 = 0
  h0 : ∀ j : Nat, k.cores ≤ (j : Int) → k.held.getD j false = false

theorem new_fit {c : Int} (h : isNew c) : (newGt c).Fit := by
  refine ⟨newGt_ok h, fun j _ => ?_, fun j _ => ?_⟩
  · unfold newGt
    simp only [List.getD_eq_getElem?_getD, List.getElem?_replicate]
    split <;> rfl
  · unfold newGt
    simp only [List.getD_eq_getElem?_getD, List.getElem?_replicate]
    split <;> rfl

theorem hold_at {k : Gt} (ok : k.Ok) (j m : Nat) (x : Bool) (hj : j < 8) : (k.hold j x).held.getD m false = if j = m then x else k.held.getD m false := by
  have := ok.lh
  unfold Gt.hold
  simp only [List.getD_eq_getElem?_getD, List.getElem?_set]
  by_cases h : j = m
  · subst h
    rw [if_pos rfl, if_pos rfl, if_pos (by omega)]
    rfl
  · rw [if_neg h, if_neg h]
theorem ep_at {k : Gt} (ok : k.Ok) (j m : Nat) (x : Int) (hj : j < 8) : (k.ep j x).eps.getD m 0 = if j = m then x else k.eps.getD m 0 := by
  have := ok.le
  unfold Gt.ep
  simp only [List.getD_eq_getElem?_getD, List.getElem?_set]
  by_cases h : j = m
  · subst h
    rw [if_pos rfl, if_pos rfl, if_pos (by omega)]
    rfl
  · rw [if_neg h, if_neg h]

theorem hold_fit {k : Gt} (f : k.Fit) (j : Nat) (x : Bool) (hj : (j : Int) < k.cores) : (k.hold j x).Fit := by
  have := f.ok.c1
  refine ⟨f.ok.hold j x, f.e0, fun m hm => ?_⟩
  have hm' : k.cores ≤ (m : Int) := hm
  rw [hold_at f.ok j m x (by omega), if_neg (by omega)]
  exact f.h0 m hm'
theorem ep_fit {k : Gt} (f : k.Fit) (j : Nat) (x : Int) (hj : (j : Int) < k.cores) (h0 : 0 ≤ x) (h1 : x ≤ 65535) : (k.ep j x).Fit := by
  have := f.ok.c1
  refine ⟨f.ok.ep j x h0 h1, fun m hm => ?_, f.h0⟩
  have hm' : k.cores ≤ (m : Int) := hm
  rw [ep_at f.ok j m x (by omega), if_neg (by omega)]
  exact f.e0 m hm'

theorem doR_fit {k : Gt} (f : k.Fit) (kind c : Int) : (doR k kind c).1.Fit := by
  unfold doR holdR startR
  by_cases hc : coreE k.cores c = 0
  · obtain ⟨h0, h1⟩ := core_in hc
    rw [if_pos hc, if_pos hc]
    split
    · split
      · exact f
      · exact hold_fit f _ _ (by omega)
    · split
      · split
        · exact ep_fit (hold_fit f _ _ (by omega)) _ _ (by show (c.toNat : Int) < k.cores; omega) (by omega) (by omega)
        · exact f
      · exact f
  · rw [if_neg hc, if_neg hc]
    split
    · exact f
    · split <;> exact f

theorem abs_set (k k' : Gt) (hc : k'.cores = k.cores) (j : Nat) (hj : j < k.cores.toNat) (x : S48)
    (he : ∀ m, m < k.cores.toNat → k'.eps.getD m 0 = if j = m then x.f0 else k.eps.getD m 0) (hh : ∀ m, m < k.cores.toNat → k'.held.getD m false = if j = m then x.f1 else k.held.getD m false) : (absG k).set j x = absG k' := by
  apply abs_ext
  · rw [List.length_set, abs_len, hc]
  · intro m hm
    rw [hc] at hm
    rw [he m hm, hh m hm, List.getElem?_set]
    by_cases e : j = m
    · subst e
      rw [if_pos rfl, if_pos (by rw [abs_len]; exact hm), if_pos rfl, if_pos rfl]
    · rw [if_neg e, if_neg e, if_neg e]
      simp [absG, hm]

theorem has_eq (k : Gt) (f : k.Fit) (c : Int) : switchyardref11_Has.f (absG k) c = some (decide (coreE k.cores c = 0)) := by
  have := f.ok.c0
  unfold switchyardref11_Has.f coreE
  rw [abs_len, show (k.cores.toNat : Int) = k.cores by omega]
  by_cases h0 : c ≥ 0
  · rw [if_pos h0]
    by_cases h1 : c < k.cores
    · rw [if_pos ⟨h0, h1⟩]; simp [h1]
    · rw [if_neg (fun h => h1 h.2)]; simp [h1]
  · rw [if_neg h0, if_neg (fun h => h0 h.1)]; simp

theorem word_eq (x : Int) (h0 : 0 ≤ x) : switchyardref01_Word.f x = some (x % 65536) := by
  unfold switchyardref01_Word.f
  rw [Int.tmod_eq_emod_of_nonneg h0, if_neg (by omega)]
theorem add_eq (x y : Int) (h0 : 0 ≤ x) (h1 : 0 ≤ y) (hx : x ≤ 65535) (hy : y ≤ 65535) : switchyardref01_Add.f x y = some ((x + y) % 65536) := by
  unfold switchyardref01_Add.f
  rw [word_eq x h0, word_eq y h1]
  simp only [Option.bind_some]
  have e : wrap64 (x % 65536 + y % 65536) = x + y := by unfold wrap64; omega
  rw [e, word_eq _ (by omega)]
  rfl

theorem down_eq (k : Gt) (f : k.Fit) : switchyardref11_Down.f 20 (absG k) = some (downR k) := by
  have hc0 := f.ok.c0
  have hc1 := f.ok.c1
  have key : ∀ (d K m : Nat), m + d = k.cores.toNat → d < K → switchyardref11_Down.l0 K (absG k) (downTo k.held m) (m : Int) = some (downTo k.held k.cores.toNat) := by
    intro d
    induction d with
    | zero =>
      intro K m hm hK
      obtain ⟨K, rfl⟩ : ∃ q, K = q + 1 := ⟨K - 1, by omega⟩
      simp only [switchyardref11_Down.l0]
      rw [if_neg (by rw [abs_len]; omega)]
      rw [show m = k.cores.toNat by omega]
    | succ d ih =>
      intro K m hm hK
      obtain ⟨K, rfl⟩ : ∃ q, K = q + 1 := ⟨K - 1, by omega⟩
      simp only [switchyardref11_Down.l0]
      have e1 : wrap64 ((m : Int) + 1) = ((m + 1 : Nat) : Int) := by unfold wrap64; omega
      have hl := downTo_len k.held m
      rw [if_pos (by rw [abs_len]; omega), if_pos (by omega), abs_at k _ (by omega) (by omega), e1, Int.toNat_natCast]
      by_cases hx : k.held.getD m false = true
      · rw [if_pos hx, if_pos (by omega), ← downTo_yes _ _ hx]
        exact ih K (m + 1) (by omega) (by omega)
      · have hx' : k.held.getD m false = false := by simpa using hx
        rw [if_neg hx, ← downTo_no _ _ hx']
        exact ih K (m + 1) (by omega) (by omega)
  have := key k.cores.toNat 20 0 (by omega) (by omega)
  rw [show ((0 : Nat) : Int) = 0 from rfl, downTo_zero] at this
  exact this

theorem link_eq (k : Gt) (f : k.Fit) (a b : Int) : switchyardref11_Link.f 1 (absG k) a b = some (linkR k a b, linkE k a b) := by
  have hc0 := f.ok.c0
  have hc1 := f.ok.c1
  have hlen : ((absG k).length : Int) = k.cores := by rw [abs_len]; omega
  unfold switchyardref11_Link.f
  rw [has_eq k f a, has_eq k f b]
  simp only [Option.bind_some, switchyardref11_Link.j0]
  by_cases ha : coreE k.cores a = 0
  · obtain ⟨a0, a1⟩ := core_in ha
    rw [if_pos (by simp [ha])]
    by_cases hb : coreE k.cores b = 0
    · obtain ⟨b0, b1⟩ := core_in hb
      rw [if_neg (by simp [hb])]
      by_cases e : a = b
      · rw [if_pos e]
        unfold linkR linkE
        rw [if_pos ha, if_pos hb, if_pos e]
        rfl
      · rw [if_neg e, if_pos a0, if_pos (by omega), if_pos b0, if_pos (by omega), abs_at k a a0 a1, abs_at k b b0 b1]
        have g1 := f.ok.get a.toNat (by omega)
        have g2 := f.ok.get b.toNat (by omega)
        rw [add_eq _ _ g1.1 g2.1 g1.2 g2.2]
        unfold linkR linkE epR
        rw [if_pos ha, if_pos hb, if_neg e]
        simp [ha, hb]
    · have hb3 : coreE k.cores b = 3 := by unfold coreE at hb ⊢; split at hb <;> first | (exact absurd rfl hb) | (rw [if_neg (by assumption)])
      rw [if_pos (by simp [hb])]
      unfold linkR linkE
      rw [if_pos ha, if_neg hb, hb3]
      rfl
  · have ha3 : coreE k.cores a = 3 := by unfold coreE at ha ⊢; split at ha <;> first | (exact absurd rfl ha) | (rw [if_neg (by assumption)])
    rw [if_neg (by simp [ha]), if_pos trivial]
    unfold linkR linkE
    rw [if_neg ha, ha3]
    rfl

theorem with_eq (k : Gt) (f : k.Fit) (i e : Int) (x : Bool) (h0 : 0 ≤ i) (h1 : i < k.cores) : switchyardref11_with.f (absG k) i e x = some ((absG k).set i.toNat ⟨e, x⟩) := by
  have hc1 := f.ok.c1
  unfold switchyardref11_with.f
  rw [if_pos (by rw [List.length_nil, Nat.zero_add, abs_len]; omega)]
  simp only [Option.bind_some, List.nil_append]
  rw [if_pos h0, if_pos (by rw [abs_len]; omega)]

theorem same_eq (k k' : Gt) (f : k.Fit) (f' : k'.Fit) (hc : k'.cores = k.cores) : switchyardref11_Same.f 20 (absG k) (absG k') = some (sameG k k') := by
  have hc0 := f.ok.c0
  have hc1 := f.ok.c1
  unfold switchyardref11_Same.f
  rw [if_pos (by rw [abs_len, abs_len, hc])]
  have key : ∀ (d K m : Nat), m + d = k.cores.toNat → d < K → (∀ j, j < m → k.eps.getD j 0 = k'.eps.getD j 0 ∧ k.held.getD j false = k'.held.getD j false) → switchyardref11_Same.l0 K (absG k) (absG k') (m : Int) = some (sameG k k') := by
    intro d
    induction d with
    | zero =>
      intro K m hm hK hj
      obtain ⟨K, rfl⟩ : ∃ q, K = q + 1 := ⟨K - 1, by omega⟩
      simp only [switchyardref11_Same.l0]
      rw [if_neg (by rw [abs_len]; omega)]
      have e1 : k.eps = k'.eps := by
        apply List.ext_getElem
        · rw [f.ok.le, f'.ok.le]
        · intro j h1 h2
          have g1 : k.eps.getD j 0 = k.eps[j] := by simp [List.getD_eq_getElem?_getD, h1]
          have g2 : k'.eps.getD j 0 = k'.eps[j] := by simp [List.getD_eq_getElem?_getD, h2]
          rw [← g1, ← g2]
          by_cases hx : j < m
          · exact (hj j hx).1
          · rw [f.e0 j (by omega), f'.e0 j (by omega)]
      have e2 : k.held = k'.held := by
        apply List.ext_getElem
        · rw [f.ok.lh, f'.ok.lh]
        · intro j h1 h2
          have g1 : k.held.getD j false = k.held[j] := by simp [List.getD_eq_getElem?_getD, h1]
          have g2 : k'.held.getD j false = k'.held[j] := by simp [List.getD_eq_getElem?_getD, h2]
          rw [← g1, ← g2]
          by_cases hx : j < m
          · exact (hj j hx).2
          · rw [f.h0 j (by omega), f'.h0 j (by omega)]
      unfold sameG
      simp [hc, e1, e2]
    | succ d ih =>
      intro K m hm hK hj
      obtain ⟨K, rfl⟩ : ∃ q, K = q + 1 := ⟨K - 1, by omega⟩
      simp only [switchyardref11_Same.l0]
      have e1 : wrap64 ((m : Int) + 1) = ((m + 1 : Nat) : Int) := by unfold wrap64; omega
      rw [if_pos (by rw [abs_len]; omega), if_pos (by omega), if_pos (by rw [abs_len, hc]; omega), e1, abs_at k _ (by omega) (by omega), abs_at k' _ (by omega) (by omega), Int.toNat_natCast]
      by_cases hx : k.eps.getD m 0 = k'.eps.getD m 0
      · by_cases hy : k.held.getD m false = k'.held.getD m false
        · rw [if_neg (by dsimp only; rw [hx, hy]; simp)]
          refine ih K (m + 1) (by omega) (by omega) fun j hj' => ?_
          by_cases e : j = m
          · subst e; exact ⟨hx, hy⟩
          · exact hj j (by omega)
        · rw [if_pos (by dsimp only; rw [beq_eq_false_iff_ne.2 hy]; simp)]
          have : k.held ≠ k'.held := fun e => hy (by rw [e])
          unfold sameG
          simp [this]
      · rw [if_pos (by dsimp only; rw [beq_eq_false_iff_ne.2 hx]; simp)]
        have : k.eps ≠ k'.eps := fun e => hx (by rw [e])
        unfold sameG
        simp [this]
  exact key k.cores.toNat 20 0 (by omega) (by omega) (fun j hj => by omega)

theorem ints_eq (l : List Int) (hl : l.length < 99) : switchyardref03_Same.f 100 l l = some true := by
  unfold switchyardref03_Same.f
  rw [if_pos rfl]
  have key : ∀ (d K m : Nat), m + d = l.length → d < K → switchyardref03_Same.l0 K l l (m : Int) = some true := by
    intro d
    induction d with
    | zero =>
      intro K m hm hK
      obtain ⟨K, rfl⟩ : ∃ q, K = q + 1 := ⟨K - 1, by omega⟩
      simp only [switchyardref03_Same.l0]
      rw [if_neg (by omega)]
    | succ d ih =>
      intro K m hm hK
      obtain ⟨K, rfl⟩ : ∃ q, K = q + 1 := ⟨K - 1, by omega⟩
      simp only [switchyardref03_Same.l0]
      have e1 : wrap64 ((m : Int) + 1) = ((m + 1 : Nat) : Int) := by unfold wrap64; omega
      rw [if_pos (by omega), if_pos (by omega), if_pos (by omega), if_pos trivial, e1]
      exact ih K (m + 1) (by omega) (by omega)
  exact key l.length 100 0 (by omega) (by omega)

theorem new_abs (c : Int) (h : isNew c) : absG (newGt c) = List.replicate c.toNat z48 := by
  symm
  apply abs_ext
  · rw [List.length_replicate]; rfl
  · intro j hj
    have hj' : j < c.toNat := hj
    have e1 : (newGt c).eps.getD j 0 = 0 := by
      unfold newGt
      simp only [List.getD_eq_getElem?_getD, List.getElem?_replicate]
      split <;> rfl
    have e2 : (newGt c).held.getD j false = false := by
      unfold newGt
      simp only [List.getD_eq_getElem?_getD, List.getElem?_replicate]
      split <;> rfl
    rw [e1, e2, List.getElem?_replicate, if_pos hj']
    rfl

end Go.Proofs.Ytghigbohaifooaa.Gates
