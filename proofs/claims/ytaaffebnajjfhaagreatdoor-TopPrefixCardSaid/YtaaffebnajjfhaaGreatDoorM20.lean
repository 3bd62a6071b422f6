/- Texts of this proof, merged: Epo, Shrt. -/
import Derived.Test.YtaaffebnajjfhaaGreatDoorM19
namespace Go.Proofs.YtaaffebnajjfhaaGreatDoor.T
set_option linter.unusedVariables false
set_option linter.unusedSimpArgs false
theorem tch_gate (most c : Nat) (s : Sc) (t : Tch) : (s.tch most c t).1.g = s.g := by cases t <;> rfl
theorem step_gate (b : Bd) (c : Nat) : (b.step c).1.sc.g = b.sc.g := by
  unfold Bd.step
  simp only
  cases hr : (b.cor c).runs with
  | none => rfl
  | some r =>
    cases r <;> simp only <;> split <;> exact tch_gate _ _ _ _
theorem call_gate (b : Bd) (x : Ev) (c p : Nat) : (b.call x c p).1.sc.g = b.sc.g := by
  unfold Bd.call
  simp only
  split
  · split <;> rfl
  · split
    · split <;> rfl
    · split <;> rfl
theorem do_gate (b : Bd) (x : Ev) (h6 : x.kind ≠ 6) (h7 : x.kind ≠ 7) : (b.do_ x).1.sc.g = b.sc.g := by
  unfold Bd.do_ Bd.act
  simp only
  rw [if_neg h6, if_neg h7]
  repeat' split
  all_goals first | rfl | exact step_gate _ _ | exact call_gate _ _ _ _
theorem hold_eps (k : Gates.Gt) (c : Int) : (Gates.holdR k c).1.eps = k.eps := by
  unfold Gates.holdR
  split
  · split <;> rfl
  · rfl
theorem do_ep_still (b : Bd) (x : Ev) (h : x.kind ≠ 7 ∨ (b.do_ x).2 ≠ 0) (c : Nat) : (b.do_ x).1.ep c = b.ep c := by
  by_cases h7 : x.kind = 7
  · have h := h.resolve_left (fun q => q h7)
    unfold Bd.do_ Bd.act at h ⊢
    simp only at h ⊢
    rw [if_neg (by omega), if_neg (by omega), if_neg (by omega), if_neg (by omega), if_pos h7] at h ⊢
    split
    · rfl
    · rename_i hz
      rw [if_neg hz] at h
      exact absurd rfl h
  · by_cases h6 : x.kind = 6
    · unfold Bd.do_ Bd.act
      simp only
      rw [if_neg (by omega), if_neg (by omega), if_neg (by omega), if_pos h6]
      split
      · rfl
      · show ((Gates.holdR b.sc.g x.core).1.eps.getD c 0).toNat = (b.sc.g.eps.getD c 0).toNat
        rw [hold_eps]
    · unfold Bd.ep
      rw [do_gate b x h6 h7]
theorem do_ep_start (b : Bd) (x : Ev) (h7 : x.kind = 7) (h0 : (b.do_ x).2 = 0) : 0 ≤ x.core ∧ x.core < b.sc.g.cores ∧ (∀ c, c ≠ x.core.toNat → (b.do_ x).1.ep c = b.ep c) ∧ (x.core.toNat < b.sc.g.eps.length → (b.do_ x).1.ep x.core.toNat = ((b.sc.g.eps.getD x.core.toNat 0 + 1) % 65536).toNat) := by
  unfold Bd.do_ Bd.act at h0 ⊢
  simp only at h0 ⊢
  rw [if_neg (by omega), if_neg (by omega), if_neg (by omega), if_neg (by omega), if_pos h7] at h0 ⊢
  by_cases hz : (Gates.startR b.sc.g x.core).2 = 0
  · rw [if_neg (by simpa using hz)] at h0 ⊢
    have hz2 := hz
    unfold Gates.startR at hz2
    split at hz2
    · rename_i hc
      split at hz2
      · rename_i hh
        have hin : 0 ≤ x.core ∧ x.core < b.sc.g.cores := by
          unfold Gates.coreE at hc
          split at hc
          · omega
          · omega
        have e : (Gates.startR b.sc.g x.core).1.eps = b.sc.g.eps.set x.core.toNat ((b.sc.g.eps.getD x.core.toNat 0 + 1) % 65536) := by
          unfold Gates.startR
          rw [if_pos hc, if_pos hh]
          rfl
        refine ⟨hin.1, hin.2, fun c hcx => ?_, fun hl => ?_⟩
        · show ((Gates.startR b.sc.g x.core).1.eps.getD c 0).toNat = (b.sc.g.eps.getD c 0).toNat
          rw [e, List.getD_eq_getElem?_getD, List.getElem?_set_ne (fun q => hcx q.symm), List.getD_eq_getElem?_getD]
        · show ((Gates.startR b.sc.g x.core).1.eps.getD x.core.toNat 0).toNat = _
          rw [e, List.getD_eq_getElem?_getD, List.getElem?_set_self hl, Option.getD_some]
      · cases hz2
    · exact absurd hz2 (by rename_i hc; exact hc)
  · rw [if_pos (by simpa using hz)] at h0
    exact absurd h0 hz
theorem do_call_has (b : Bd) (x : Ev) (h3 : 3 ≤ x.kind) (h5 : x.kind ≤ 5) (h0 : (b.do_ x).2 = 0) : (0 ≤ x.core ∧ x.core < b.n) ∧ (0 ≤ x.peer ∧ x.peer < b.n) := by
  unfold Bd.do_ Bd.act at h0
  simp only at h0
  rw [if_neg (by omega), if_neg (by omega), if_pos ⟨h3, h5⟩] at h0
  split at h0
  · cases h0
  · rename_i hh
    have h1 : 0 ≤ x.core ∧ x.core < (b.n : Int) := Decidable.byContradiction fun q => hh (.inl q)
    have h2 : 0 ≤ x.peer ∧ x.peer < (b.n : Int) := Decidable.byContradiction fun q => hh (.inr q)
    exact ⟨h1, h2⟩
end Go.Proofs.YtaaffebnajjfhaaGreatDoor.T
namespace Go.Proofs.YtaaffebnajjfhaaGreatDoor.T
set_option linter.unusedVariables false
set_option linter.unusedSimpArgs false
def Shrt (b : Bd) : Prop := ∀ e ∈ b.diary, e.load.length ≤ 8
theorem shrt_getD {d : List Ent} (h : ∀ e ∈ d, e.load.length ≤ 8) (k : Nat) : (d.getD k Ent.none_).load.length ≤ 8 := by
  rw [List.getD_eq_getElem?_getD]
  cases hg : d[k]? with
  | none => simp [Ent.none_]
  | some e => exact h e (List.mem_of_getElem? hg)
theorem shrt_set {d : List Ent} (h : ∀ e ∈ d, e.load.length ≤ 8) (k : Nat) {y : Ent} (hy : y.load.length ≤ 8) : ∀ e ∈ d.set k y, e.load.length ≤ 8 := by
  intro e he
  rcases List.mem_or_eq_of_mem_set he with he | he
  · exact h e he
  · rw [he]; exact hy
theorem step_shrt {b : Bd} {L : List Nat} (hG : Good b L) (hN : b.now < 40000) {c : Nat} (hc : c < b.n) (hu : b.upb c = true) (h : Shrt b) : Shrt (({ b with now := b.now + 1 } : Bd).step c).1 := by
  have hG' := hG.step hN hc hu
  obtain ⟨P, C, hI, -⟩ := hG
  have hran := hI.ran c hc
  unfold Bd.Ran at hran
  unfold Bd.step at hG' ⊢
  simp only at hG' ⊢
  cases hr : (b.cor c).runs with
  | none => exact h
  | some r =>
    rw [hr] at hran hG'
    cases r with
    | giv p =>
      simp only
      split
      · exact shrt_set h _ (shrt_getD h _)
      · exact h
    | tak p =>
      obtain ⟨_, hp, hpc, _⟩ := hran
      simp only at hG' ⊢
      split
      · rename_i hd
        rw [if_pos hd] at hG'
        obtain ⟨P', C', hI', -⟩ := hG'
        have hm := (hI'.mach c p hc hp hpc (by unfold Bd.upb at hu ⊢; simp only [Bd.setCor, Bd.setSc]; rw [tch_g]; exact hu)).tak.len
        simp only [Bd.setCor, Bd.setSc, upd_same] at hm
        unfold Shrt Bd.finT
        simp only
        refine shrt_set h _ ?_
        split
        · simp only [List.length_map]
          unfold Tak.gotR
          split
          · exact hm
          · simp
        · exact shrt_getD h _
      · exact h
theorem call_shrt {b : Bd} (h : Shrt b) (x : Ev) (c p : Nat) : Shrt (b.call x c p).1 := by
  have hpush : ∀ y : Ent, y.load.length ≤ 8 → ∀ e ∈ b.diary ++ [y], e.load.length ≤ 8 := fun y hy e he => by
    rcases List.mem_append.1 he with he | he
    · exact h e he
    · rw [List.mem_singleton.1 he]; exact hy
  unfold Bd.call
  simp only
  split
  · split
    · exact h
    · rename_i hs
      refine hpush _ ?_
      show x.load.length ≤ 8
      refine Decidable.byContradiction fun q => hs ?_
      unfold Giv.send
      split
      · simp
      · rw [if_pos (by omega)]; simp
  · split
    · split
      · exact h
      · exact hpush _ (by simp)
    · split
      · exact h
      · exact hpush _ (by simp)
theorem Good.shrt {b : Bd} {L : List Nat} (hG : Good b L) (hN : b.now < 40000) (h : Shrt b) (x : Ev) : Shrt (b.do_ x).1 := by
  unfold Bd.do_ Bd.act
  simp only
  split
  · split
    · exact h
    · rename_i hh
      split
      · exact h
      · rename_i hu
        have h2 : 0 ≤ x.core ∧ x.core < (b.n : Int) := Decidable.byContradiction fun q => hh q
        exact step_shrt hG hN (by omega) ((upb_up b _).2 (Decidable.byContradiction fun q => hu q)) h
  · repeat' split
    all_goals first | exact h | exact call_shrt (b := { b with now := b.now + 1 }) h _ _ _
end Go.Proofs.YtaaffebnajjfhaaGreatDoor.T
