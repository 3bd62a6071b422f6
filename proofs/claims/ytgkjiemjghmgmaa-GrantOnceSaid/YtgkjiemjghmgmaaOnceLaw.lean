/- GrantOnce, the plain law: what was given once is given never again. -/
import Derived.Test.YtgkjiemjghmgmaaPlayRef3
namespace Go.Proofs.Ytgkjiemjghmgmaa.Grants
set_option linter.unusedVariables false
set_option linter.unusedSimpArgs false
open Go.RowKit

theorem getD_set (l : List Bool) (j m : Nat) (x : Bool) (hj : j < l.length) : (l.set j x).getD m false = if j = m then x else l.getD m false := by
  simp only [List.getD_eq_getElem?_getD, List.getElem?_set]
  by_cases h : j = m
  · subst h
    rw [if_pos rfl, if_pos rfl, if_pos hj]
    rfl
  · rw [if_neg h, if_neg h]

theorem heldTo_succ (held : List Bool) (m : Nat) : (heldTo held (m + 1)).length = (heldTo held m).length + (if held.getD m false = true then 1 else 0) := by
  by_cases h : held.getD m false = true
  · rw [heldTo_yes _ _ h, if_pos h]; simp
  · rw [heldTo_no _ _ (by simpa using h), if_neg h]; simp

theorem len_set (held : List Bool) (j : Nat) (hj : j < held.length) (h : held.getD j false = false) (m : Nat) : (heldTo (held.set j true) m).length = (heldTo held m).length + (if j < m then 1 else 0) := by
  induction m with
  | zero => simp [heldTo_zero]
  | succ m ih =>
    rw [heldTo_succ, heldTo_succ, ih, getD_set _ _ _ _ hj]
    by_cases e : j = m
    · subst e
      rw [if_pos rfl, h, if_neg (by omega), if_pos rfl, if_neg (by decide), if_pos (by omega)]
    · rw [if_neg e]
      have a : (if j < m + 1 then 1 else 0) = if j < m then (1 : Nat) else 0 := by
        by_cases q : j < m
        · rw [if_pos q, if_pos (show j < m + 1 by omega)]
        · rw [if_neg q, if_neg (show ¬ j < m + 1 by omega)]
      rw [a]
      omega

/-- A handle that is out of use: never good again while no generation wraps. -/
def Old (k : Tb) (h : Int) : Prop := 0 ≤ h ∧ h / 64 ≤ k.gens.getD (h % 64).toNat 0 ∧ (k.held.getD (h % 64).toNat false = true → h / 64 < k.gens.getD (h % 64).toNat 0)

theorem old_not {k : Tb} {h : Int} (o : Old k h) : ¬ good k h := fun g => by
  obtain ⟨g1, g2, g3⟩ := g
  have := o.2.2 g2
  omega

structure Inv (k : Tb) (gn gd : List Int) (m : Nat) : Prop where
  ok : k.Ok
  gen : ∀ j, k.gens.getD j 0 ≤ (m : Int)
  goods : ∀ h ∈ gd, good k h
  nodup : gd.Nodup
  len : (heldR k).length = gd.length
  olds : ∀ h ∈ gn, Old k h

theorem inv_new {n : Int} (h : isNew n) : Inv (newTb n) [] [] 0 := by
  refine ⟨newTb_ok h, fun j => ?_, fun _ hx => absurd hx (List.not_mem_nil), List.nodup_nil, ?_, fun _ hx => absurd hx (List.not_mem_nil)⟩
  · unfold newTb
    simp only [List.getD_eq_getElem?_getD, List.getElem?_replicate]
    split <;> simp
  · have e : ∀ m, (heldTo (newTb n).held m).length = 0 := by
      intro m
      induction m with
      | zero => rfl
      | succ m ih =>
        rw [heldTo_succ, ih, if_neg]
        unfold newTb
        simp only [List.getD_eq_getElem?_getD, List.getElem?_replicate]
        split <;> simp
    exact e _

theorem inv_more {k : Tb} {gn gd : List Int} {m : Nat} (I : Inv k gn gd m) : Inv k gn gd (m + 1) := ⟨I.ok, fun j => by have := I.gen j; omega, I.goods, I.nodup, I.len, I.olds⟩

theorem inv_gone {k : Tb} {gn gd : List Int} {m : Nat} (I : Inv k gn gd m) (h : Int) (hh : h ∈ gn) : slotR k h = (0, false) ∧ dropR k h = (k, 7) := by
  have := old_not (I.olds h hh)
  unfold slotR dropR
  rw [if_neg this, if_neg this]
  exact ⟨rfl, rfl⟩

theorem good_old {k : Tb} {h : Int} (ok : k.Ok) (g : good k h) : 0 ≤ h ∧ h / 64 = k.gens.getD (h % 64).toNat 0 := by
  obtain ⟨g1, g2, g3⟩ := g
  have hn := ok.n1
  have := ok.get (h % 64).toNat (by omega)
  omega

theorem inv_clear {k : Tb} {gn gd : List Int} {m : Nat} (I : Inv k gn gd m) : Inv k.none_ (gn ++ gd) [] m := by
  have hf : ∀ j, k.none_.held.getD j false = false := fun j => by
    unfold Tb.none_
    simp only [List.getD_eq_getElem?_getD, List.getElem?_replicate]
    split <;> rfl
  refine ⟨I.ok.none_, I.gen, fun _ hx => absurd hx (List.not_mem_nil), List.nodup_nil, ?_, fun h hh => ?_⟩
  · have e : ∀ m, (heldTo k.none_.held m).length = 0 := by
      intro m
      induction m with
      | zero => rfl
      | succ m ih => rw [heldTo_succ, ih, hf, if_neg (by decide)]
    exact e _
  · rcases List.mem_append.1 hh with h1 | h1
    · have := I.olds h h1
      exact ⟨this.1, this.2.1, fun q => by rw [hf] at q; exact absurd q (by decide)⟩
    · have := good_old I.ok (I.goods h h1)
      exact ⟨this.1, by show h / 64 ≤ k.gens.getD _ 0; omega, fun q => by rw [hf] at q; exact absurd q (by decide)⟩

theorem inv_drop {k : Tb} {gn gd : List Int} {m : Nat} (I : Inv k gn gd m) (i : Nat) (hi : i < gd.length) (x : Int) (hx : gd[i]? = some x) :
    dropR k x = (k.hold (x % 64).toNat false, 0) ∧ Inv (k.hold (x % 64).toNat false) (gn ++ [x]) (gd.take i ++ gd.drop (i + 1)) m := by
  have hmem : x ∈ gd := List.mem_of_getElem? hx
  have hg := I.goods x hmem
  have hn := I.ok.n1
  have h64 : (x % 64).toNat < 64 := by omega
  have hl : (x % 64).toNat < k.held.length := by rw [I.ok.lh]; exact h64
  have hat : ∀ j, (k.hold (x % 64).toNat false).held.getD j false = if (x % 64).toNat = j then false else k.held.getD j false := fun j => hold_at I.ok _ j false h64
  refine ⟨by unfold dropR; rw [if_pos hg], I.ok.hold _ _, I.gen, fun h hh => ?_, ?_, ?_, fun h hh => ?_⟩
  · have hne : h ≠ x ∧ h ∈ gd := by
      have hnd := I.nodup
      have hsplit : gd = gd.take i ++ x :: gd.drop (i + 1) := by
        have hxi : gd[i] = x := by rw [List.getElem?_eq_getElem hi] at hx; exact Option.some.inj hx
        have := List.take_append_drop i gd
        rw [List.drop_eq_getElem_cons hi, hxi] at this
        exact this.symm
      rw [hsplit] at hnd
      rw [List.nodup_append] at hnd
      obtain ⟨n1, n2, n3⟩ := hnd
      rcases List.mem_append.1 hh with h1 | h1
      · exact ⟨fun e => n3 h h1 x List.mem_cons_self e, List.mem_of_mem_take h1⟩
      · exact ⟨fun e => (List.nodup_cons.1 n2).1 (e ▸ h1), List.mem_of_mem_drop h1⟩
    obtain ⟨g1, g2, g3⟩ := I.goods h hne.2
    have hslot : (x % 64).toNat ≠ (h % 64).toNat := by
      intro e
      apply hne.1
      have e2 : x % 64 = h % 64 := by omega
      have := hg.2.2
      rw [e, e2] at this
      rw [← this]
      exact g3.symm
    exact ⟨g1, by rw [hat, if_neg hslot]; exact g2, g3⟩
  · have : (gd.take i ++ gd.drop (i + 1)).Sublist gd := by
      rw [← List.eraseIdx_eq_take_drop_succ]
      exact List.eraseIdx_sublist _ _
    exact I.nodup.sublist this
  · have hlen := I.len
    have key := len_set (k.held.set (x % 64).toNat false) (x % 64).toNat (by simpa using hl) (by rw [getD_set _ _ _ _ hl, if_pos rfl]) k.n.toNat
    have hback : (k.held.set (x % 64).toNat false).set (x % 64).toNat true = k.held := by
      rw [List.set_set]
      apply List.ext_getElem?
      intro j
      rw [List.getElem?_set]
      by_cases e : (x % 64).toNat = j
      · rw [if_pos e, if_pos (by omega)]
        subst e
        have := hg.2.1
        rw [List.getD_eq_getElem?_getD, List.getElem?_eq_getElem hl] at this
        rw [List.getElem?_eq_getElem hl]
        exact congrArg some this.symm
      · rw [if_neg e]
    rw [hback, if_pos (by have := hg.1; omega)] at key
    show (heldTo (k.held.set (x % 64).toNat false) k.n.toNat).length = _
    unfold heldR at hlen
    rw [List.length_append, List.length_take, List.length_drop]
    omega
  · rcases List.mem_append.1 hh with h1 | h1
    · have := I.olds h h1
      refine ⟨this.1, this.2.1, fun q => this.2.2 ?_⟩
      rw [hat] at q
      by_cases e : (x % 64).toNat = (h % 64).toNat
      · rw [if_pos e] at q; exact absurd q (by decide)
      · rw [if_neg e] at q; exact q
    · have : h = x := by simpa using h1
      subst this
      have := good_old I.ok hg
      exact ⟨this.1, by show h / 64 ≤ k.gens.getD _ 0; omega, fun q => by rw [hat, if_pos rfl] at q; exact absurd q (by decide)⟩

theorem inv_give {k : Tb} {gn gd : List Int} {m : Nat} (I : Inv k gn gd m) (hm : m < 60000) (i : Int) (h : (giveR k i).2.2 = true) :
    Inv (giveR k i).1 gn (gd ++ [(giveR k i).2.1]) (m + 1) ∧ (∀ g ∈ gn ++ gd, g ≠ (giveR k i).2.1) ∧ slotR (giveR k i).1 (giveR k i).2.1 = (i, true) := by
  by_cases hc : 0 ≤ i ∧ i < k.n ∧ k.held.getD i.toNat false = false
  · have e : giveR k i = ((k.gen i.toNat ((k.gens.getD i.toNat 0 + 1) % 65536)).hold i.toNat true, (k.gens.getD i.toNat 0 + 1) % 65536 * 64 + i, true) := by unfold giveR; rw [if_pos hc]
    rw [e]
    obtain ⟨h0, h1, hh⟩ := hc
    have hn := I.ok.n1
    have hi64 : i.toNat < 64 := by omega
    have hgm := I.gen i.toNat
    have hg0 := I.ok.get i.toNat hi64
    have hw : (k.gens.getD i.toNat 0 + 1) % 65536 = k.gens.getD i.toNat 0 + 1 := by omega
    rw [hw]
    have okg : (k.gen i.toNat (k.gens.getD i.toNat 0 + 1)).Ok := I.ok.gen _ _ (by omega) (by omega)
    have hgen : ∀ j, ((k.gen i.toNat (k.gens.getD i.toNat 0 + 1)).hold i.toNat true).gens.getD j 0 = if i.toNat = j then k.gens.getD i.toNat 0 + 1 else k.gens.getD j 0 := fun j => gen_at I.ok _ j _ hi64
    have hheld : ∀ j, ((k.gen i.toNat (k.gens.getD i.toNat 0 + 1)).hold i.toNat true).held.getD j false = if i.toNat = j then true else k.held.getD j false := fun j => hold_at okg _ j true hi64
    generalize hX : k.gens.getD i.toNat 0 = X at *
    have hmod : (X * 64 + 64 + i) % 64 = i := by omega
    have hx : (X + 1) * 64 + i = X * 64 + 64 + i := by omega
    dsimp only
    rw [hx]
    have hgood : good ((k.gen i.toNat (X + 1)).hold i.toNat true) (X * 64 + 64 + i) := by
      unfold good
      rw [hmod, hheld, if_pos rfl, hgen, if_pos rfl]
      exact ⟨h1, rfl, by omega⟩
    have hold2 : ∀ g ∈ gd, (g % 64).toNat ≠ i.toNat := fun g hg e => by
      have := (I.goods g hg).2.1
      rw [e, hh] at this
      exact absurd this (by decide)
    have hneq : ∀ g ∈ gn ++ gd, g ≠ X * 64 + 64 + i := fun g hg e => by
      rcases List.mem_append.1 hg with h2 | h2
      · have o := (I.olds g h2).2.1
        rw [e, hmod, hX] at o
        omega
      · refine hold2 g h2 ?_
        rw [e, hmod]
    refine ⟨⟨okg.hold _ _, fun j => ?_, fun g hg => ?_, ?_, ?_, fun g hg => ?_⟩, hneq, ?_⟩
    · rw [hgen]
      have := I.gen j
      split <;> omega
    · rcases List.mem_append.1 hg with h2 | h2
      · obtain ⟨g1, g2, g3⟩ := I.goods g h2
        have hne := hold2 g h2
        exact ⟨g1, by rw [hheld, if_neg (fun q => hne q.symm)]; exact g2, by rw [hgen, if_neg (fun q => hne q.symm)]; exact g3⟩
      · have : g = X * 64 + 64 + i := by simpa using h2
        rw [this]
        exact hgood
    · rw [List.nodup_append]
      refine ⟨I.nodup, by simp, fun a ha b hb => ?_⟩
      have : b = X * 64 + 64 + i := by simpa using hb
      rw [this]
      exact hneq a (List.mem_append_right _ ha)
    · have key := len_set k.held i.toNat (by rw [I.ok.lh]; exact hi64) hh k.n.toNat
      have hl := I.len
      unfold heldR at hl
      show (heldTo (k.held.set i.toNat true) k.n.toNat).length = _
      rw [key, if_pos (by omega), hl]
      simp
    · have o := I.olds g hg
      refine ⟨o.1, ?_, fun q => ?_⟩
      · rw [hgen]
        split
        · rename_i e
          have := o.2.1
          rw [← e, hX] at this
          omega
        · exact o.2.1
      · rw [hheld] at q
        rw [hgen]
        by_cases e : i.toNat = (g % 64).toNat
        · rw [if_pos e]
          have := o.2.1
          rw [← e, hX] at this
          omega
        · rw [if_neg e]
          rw [if_neg e] at q
          exact o.2.2 q
    · unfold slotR
      rw [if_pos hgood, hmod]
  · have e : giveR k i = (k, 0, false) := by unfold giveR; rw [if_neg hc]
    rw [e] at h
    exact absurd h (by simp)

end Go.Proofs.Ytgkjiemjghmgmaa.Grants
