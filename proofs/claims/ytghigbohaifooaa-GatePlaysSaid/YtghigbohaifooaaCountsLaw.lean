/- GateCounts, the plain law: what holding and starting a core does to a link. -/
import Derived.Test.YtghigbohaifooaaDo
namespace Go.Proofs.Ytghigbohaifooaa.Gates
set_option linter.unusedVariables false
set_option linter.unusedSimpArgs false
open Go.RowKit

theorem doR_cores (k : Gt) (kind c : Int) : (doR k kind c).1.cores = k.cores := by
  unfold doR holdR startR
  repeat' split
  all_goals rfl

theorem link_in {k : Gt} {a b : Int} (h : linkE k a b = 0) : (0 ≤ a ∧ a < k.cores) ∧ (0 ≤ b ∧ b < k.cores) ∧ a ≠ b := by
  unfold linkE at h
  by_cases ha : coreE k.cores a = 0
  · rw [if_pos ha] at h
    by_cases hb : coreE k.cores b = 0
    · rw [if_pos hb] at h
      by_cases e : a = b
      · rw [if_pos e] at h; omega
      · exact ⟨core_in ha, core_in hb, e⟩
    · rw [if_neg hb] at h; exact absurd h hb
  · rw [if_neg ha] at h; exact absurd h ha

theorem core_yes {n c : Int} (h0 : 0 ≤ c) (h1 : c < n) : coreE n c = 0 := by unfold coreE; rw [if_pos ⟨h0, h1⟩]
theorem core_no {n c : Int} (h : ¬ (0 ≤ c ∧ c < n)) : coreE n c = 3 := by unfold coreE; rw [if_neg h]

theorem linkE_cores {k k' : Gt} (h : k'.cores = k.cores) (a b : Int) : linkE k' a b = linkE k a b := by unfold linkE; rw [h]
theorem linkE_comm (k : Gt) (a b : Int) (h : linkE k a b = 0) : linkE k b a = 0 := by
  obtain ⟨ha, hb, e⟩ := link_in h
  unfold linkE
  rw [if_pos (core_yes hb.1 hb.2), if_pos (core_yes ha.1 ha.2), if_neg (fun q => e q.symm)]
theorem linkR_comm (k : Gt) (a b : Int) (h : linkE k a b = 0) : linkR k b a = linkR k a b := by
  unfold linkR
  rw [if_pos h, if_pos (linkE_comm k a b h), Int.add_comm]
theorem linkR_eps {k k' : Gt} (h : k'.cores = k.cores) (g : k'.eps = k.eps) (a b : Int) : linkR k' a b = linkR k a b := by
  unfold linkR epR
  rw [linkE_cores h, h, g]
theorem linkR_rng {k : Gt} (a b : Int) : 0 ≤ linkR k a b ∧ linkR k a b ≤ 65535 := by
  unfold linkR
  split <;> omega

/-- A core that is up is held. -/
theorem hold_up {k : Gt} {c : Int} (h : upR k c = true) : (holdR k c).2 = 0 ∧ (holdR k c).1 = k.hold c.toNat true ∧ 0 ≤ c ∧ c < k.cores := by
  unfold upR at h
  simp only [Bool.and_eq_true, decide_eq_true_eq, Bool.not_eq_true'] at h
  obtain ⟨hc, hh⟩ := h
  unfold holdR
  rw [if_pos hc, if_neg (by rw [hh]; simp)]
  exact ⟨rfl, rfl, core_in hc⟩

theorem held_of_down {k : Gt} {c : Int} (h0 : 0 ≤ c) (h1 : c < k.cores) (h : upR k c = false) : k.held.getD c.toNat false = true := by
  unfold upR at h
  rw [core_yes h0 h1] at h
  simpa using h

theorem held_hold {k : Gt} (ok : k.Ok) (j : Nat) (hj : j < 8) : (k.hold j true).held.getD j false = true := by
  have := ok.lh
  simp [Gt.hold, List.getD_eq_getElem?_getD, List.getElem?_set, this, hj]

/-- A held core is started: its epoch is one more. -/
theorem start_held {k : Gt} {c : Int} (h0 : 0 ≤ c) (h1 : c < k.cores) (h : k.held.getD c.toNat false = true) : (startR k c).2 = 0 ∧ (startR k c).1 = (k.hold c.toNat false).ep c.toNat ((k.eps.getD c.toNat 0 + 1) % 65536) := by
  unfold startR
  rw [if_pos (core_yes h0 h1), if_pos h]
  exact ⟨rfl, rfl⟩
theorem start_out {k : Gt} {c : Int} (h : ¬ (0 ≤ c ∧ c < k.cores)) : (startR k c).2 = 3 ∧ (startR k c).1 = k := by
  unfold startR
  rw [core_no h, if_neg (by omega)]
  exact ⟨rfl, rfl⟩

theorem epR_start {k : Gt} (ok : k.Ok) {c : Int} (h0 : 0 ≤ c) (h1 : c < k.cores) (h : k.held.getD c.toNat false = true) (a : Int) (ha0 : 0 ≤ a) (ha1 : a < k.cores) :
    epR (startR k c).1 a = if a = c then (epR k a + 1) % 65536 else epR k a := by
  have hc := ok.c1
  have hl := ok.le
  obtain ⟨-, e⟩ := start_held h0 h1 h
  rw [e]
  unfold epR
  have e1 : coreE ((k.hold c.toNat false).ep c.toNat ((k.eps.getD c.toNat 0 + 1) % 65536)).cores a = 0 := core_yes ha0 ha1
  rw [if_pos e1, if_pos (core_yes ha0 ha1)]
  show (k.eps.set c.toNat _).getD a.toNat 0 = _
  by_cases hac : a = c
  · subst hac
    rw [if_pos rfl]
    simp only [List.getD_eq_getElem?_getD, List.getElem?_set]
    rw [if_pos trivial, if_pos (by omega)]
    rfl
  · rw [if_neg hac]
    simp only [List.getD_eq_getElem?_getD, List.getElem?_set]
    rw [if_neg (by omega)]

/-- The link's epoch when a core has been started. -/
theorem link_start {k : Gt} (ok : k.Ok) {c : Int} (h0 : 0 ≤ c) (h1 : c < k.cores) (h : k.held.getD c.toNat false = true) (a b : Int) (he : linkE k a b = 0) :
    linkE (startR k c).1 a b = 0 ∧ linkR (startR k c).1 a b = (linkR k a b + (if c = a ∨ c = b then 1 else 0)) % 65536 := by
  obtain ⟨ha, hb, hne⟩ := link_in he
  have hcs : (startR k c).1.cores = k.cores := by rw [(start_held h0 h1 h).2]; rfl
  have hE : linkE (startR k c).1 a b = 0 := by rw [linkE_cores hcs, he]
  refine ⟨hE, ?_⟩
  unfold linkR
  rw [if_pos hE, if_pos he, epR_start ok h0 h1 h a ha.1 ha.2, epR_start ok h0 h1 h b hb.1 hb.2]
  by_cases e1 : a = c
  · subst e1
    rw [if_pos rfl, if_neg (fun q => hne q.symm), if_pos (.inl rfl)]
    omega
  · rw [if_neg e1]
    by_cases e2 : b = c
    · subst e2
      rw [if_pos rfl, if_pos (.inr rfl)]
      omega
    · rw [if_neg e2, if_neg (by omega)]
      omega

end Go.Proofs.Ytghigbohaifooaa.Gates
