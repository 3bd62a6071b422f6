/- Texts of this proof, merged: ChanH, ChanI. -/
import Derived.Test.YtaaffebnajjfhaaGreatDoorM09
namespace Go.Proofs.YtaaffebnajjfhaaGreatDoor.T
set_option linter.unusedVariables false
set_option linter.unusedSimpArgs false
theorem drop_cons {α : Type} (l : List α) (k : Nat) (d : α) (hk : k < l.length) : l.drop k = l.getD k d :: l.drop (k + 1) := by
  rw [List.drop_eq_getElem_cons hk]
  simp [List.getD, hk]
theorem perm_back {out : List Nat} {k : Nat} {w : Int} (h : out.findIdx? (fun (x : Nat) => (x : Int) == w) = some k) : out.Perm (w.toNat :: out.eraseIdx k) ∧ w = (w.toNat : Int) := by
  obtain ⟨hk, hp, _⟩ := List.findIdx?_eq_some_iff_getElem.1 h
  have e : (out[k] : Int) = w := by simpa using hp
  refine ⟨?_, by omega⟩
  rw [show w.toNat = out[k] by omega, List.eraseIdx_eq_take_drop_succ]
  have h1 : out = out.take k ++ out[k] :: out.drop (k + 1) := by
    rw [List.getElem_cons_drop hk, List.take_append_drop]
  conv => lhs; rw [h1]
  exact List.perm_middle
theorem GIn.quiet {a b R hd tl : Nat} {z : GV} {B : List TV} {log : Log} {ulog H : List Nat} {g g' : Giv} {w e : Int} {d : Bool} {u : TV}
    (hR : 1 ≤ R) (hU : ulog.length < 60000) (hN : log.length < 60000) (hB : BInv (a + b) R B ulog tl) (h : GIn (a + b) R z B log ulog H hd tl g) (hr : g.ring = R) (hw : GWf a b R g) (hi : g.inn b) (hs : GStep g w g' d e) (hst : g.stores = false)
    (hu : u ∈ B) (hm : ∀ x ∈ B, u.ce = a + b → x.ce = a + b ∧ u.ui ≤ x.ui) (h1 : g.pc = 1 ∨ g.pc = 15 → w = (b : Int)) (h6 : g.pc = 6 → w = (u.ui : Int)) (h7 : g.pc = 7 → w = (u.used (g.tail % R) : Int)) :
    ∃ tl', tl ≤ tl' ∧ GIn (a + b) R z B log ulog H hd tl' g' := by
  have hu1 := h.ce u hu
  have hu2 := hB.most u hu hu1.1
  cases hs with
  | askNew p q => exact absurd (h1 (.inl p)) (by rw [← hi.2.1]; exact q)
  | askRoom p q r =>
    refine ⟨tl, Nat.le_refl _, ?_⟩
    obtain ⟨all, out, next, tail, tle, ce, p7, i8, p8, p9, p10, p11, sh⟩ := h
    constructor <;> grind [Giv.shown, Giv.cur]
  | askLink p q r => exact absurd hi.1 (by simp [r])
  | settle p => exact absurd p hi.2.2.2.2
  | down p q => exact absurd (hw.wf5 p) (by simp [hi.1])
  | link p q => exact absurd (hw.wf5 p) (by simp [hi.1])
  | corrupt6 l p q r =>
    refine ⟨tl, Nat.le_refl _, ?_⟩
    obtain ⟨all, out, next, tail, tle, ce, p7, i8, p8, p9, p10, p11, sh⟩ := h
    constructor <;> grind [Giv.shown, Giv.cur]
  | back6 l p q r s =>
    refine ⟨tl, Nat.le_refl _, ?_⟩
    obtain ⟨all, out, next, tail, tle, ce, p7, i8, p8, p9, p10, p11, sh⟩ := h
    have hl : tl + l ≤ u.ui := by
      have := h6 p
      have := tail
      omega
    refine ⟨all, by simpa [Giv.cur, p] using out, by simpa [Giv.shown, p] using next, tail, tle, ce, fun _ => ⟨s, fun x hx => Nat.le_trans hl (hm x hx hu1.1).2⟩, ?_, ?_, ?_, ?_, ?_, ?_⟩ <;> simp [Giv.shown]
  | full6 p q r =>
    refine ⟨tl, Nat.le_refl _, ?_⟩
    obtain ⟨all, out, next, tail, tle, ce, p7, i8, p8, p9, p10, p11, sh⟩ := h
    constructor <;> grind [Giv.shown, Giv.cur]
  | room6 dd r p' p q hf hp =>
    refine ⟨tl, Nat.le_refl _, ?_⟩
    obtain ⟨all, out, next, tail, tle, ce, p7, i8, p8, p9, p10, p11, sh⟩ := h
    have hp' : p' = 8 ∨ p' = 9 := by omega
    refine ⟨?_, ?_, ?_, tail, tle, ce, ?_, ?_, ?_, ?_, ?_, ?_, ?_⟩
    · rw [hf] at all
      rw [List.perm_iff_count] at all ⊢
      intro x
      have := all x
      simp only [List.count_append, List.count_cons, List.count_nil] at this ⊢
      omega
    · have e1 : g.cur = [] := by simp [Giv.cur, p]
      rw [e1] at out
      rw [List.perm_iff_count] at out ⊢
      intro x
      have := out x
      simp only [Giv.cur, show 8 ≤ p' ∧ p' ≤ 12 by omega, and_self, if_true]
      simp only [List.count_append, List.count_cons, List.count_nil] at this ⊢
      omega
    · have e1 : ¬ g.shown := by simp [Giv.shown, p]
      rw [if_neg e1] at next
      rw [if_neg (by simp only [Giv.shown]; omega)]
      exact next
    all_goals grind [Giv.shown]
  | corrupt7 p q =>
    refine ⟨tl, Nat.le_refl _, ?_⟩
    obtain ⟨all, out, next, tail, tle, ce, p7, i8, p8, p9, p10, p11, sh⟩ := h
    constructor <;> grind [Giv.shown, Giv.cur]
  | back7 k p q r =>
    obtain ⟨all, out, next, tail, tle, ce, p7, i8, p8, p9, p10, p11, sh⟩ := h
    obtain ⟨hb, hwn⟩ := perm_back q
    have h7l := (p7 p).2 u hu
    have h7p := (p7 p).1
    have hlt : tl < ulog.length := by omega
    have hv := hB.ok u hu hu1.1 tl (Nat.le_refl _) (by omega)
    have hw7 : w.toNat = ulog.getD tl 0 := by rw [h7 p, tail, Int.toNat_natCast]; exact hv
    have hd := drop_cons ulog tl 0 hlt
    refine ⟨tl + 1, Nat.le_succ _, ?_, ?_, by simpa [Giv.shown, p] using next, by simp only [tail]; omega, hlt, fun x hx => ⟨(ce x hx).1, by have := (p7 p).2 x hx; omega⟩, fun _ => ⟨r, fun x hx => by have := (p7 p).2 x hx; simp only; omega⟩, ?_, ?_, ?_, ?_, ?_, ?_⟩
    · rw [List.perm_iff_count] at all hb ⊢
      intro x
      have h1 := all x
      have h2 := hb x
      simp only [List.count_append, List.count_cons, List.count_nil] at h1 h2 ⊢
      omega
    · have e1 : g.cur = [] := by simp [Giv.cur, p]
      rw [e1, hd, ← hw7] at out
      rw [List.perm_iff_count] at out hb ⊢
      intro x
      have h1 := out x
      have h2 := hb x
      have e2 : ∀ y, ({ g with out := g.out.eraseIdx k, free := g.free ++ [w.toNat], tail := y, left := g.left - 1, pc := 7, i := 0 } : Giv).cur = [] := fun y => by simp [Giv.cur]
      rw [e2]
      simp only [List.count_append, List.count_cons, List.count_nil] at h1 h2 ⊢
      omega
    all_goals grind [Giv.shown]
  | room7 k dd r p' p q hl hf hp =>
    obtain ⟨all, out, next, tail, tle, ce, p7, i8, p8, p9, p10, p11, sh⟩ := h
    obtain ⟨hb, hwn⟩ := perm_back q
    have h7l := (p7 p).2 u hu
    have h7p := (p7 p).1
    have hlt : tl < ulog.length := by omega
    have hv := hB.ok u hu hu1.1 tl (Nat.le_refl _) (by omega)
    have hw7 : w.toNat = ulog.getD tl 0 := by rw [h7 p, tail, Int.toNat_natCast]; exact hv
    have hd := drop_cons ulog tl 0 hlt
    have hp' : p' = 8 ∨ p' = 9 := by omega
    refine ⟨tl + 1, Nat.le_succ _, ?_, ?_, ?_, by simp only [tail]; omega, hlt, fun x hx => ⟨(ce x hx).1, by have := (p7 p).2 x hx; omega⟩, by simp only; omega, ?_, ?_, ?_, ?_, ?_, ?_⟩
    · rw [List.perm_iff_count] at all hb ⊢
      intro x
      have h1 := all x
      have h2 := hb x
      have h3 := congrArg (List.count x) hf
      simp only [List.count_append, List.count_cons, List.count_nil] at h1 h2 h3 ⊢
      omega
    · have e1 : g.cur = [] := by simp [Giv.cur, p]
      rw [e1, hd, ← hw7] at out
      rw [List.perm_iff_count] at out hb ⊢
      intro x
      have h1 := out x
      have h2 := hb x
      simp only [Giv.cur, show 8 ≤ p' ∧ p' ≤ 12 by omega, and_self, if_true]
      simp only [List.count_append, List.count_cons, List.count_nil] at h1 h2 ⊢
      omega
    · have e1 : ¬ g.shown := by simp [Giv.shown, p]
      rw [if_neg e1] at next
      rw [if_neg (by simp only [Giv.shown]; omega)]
      exact next
    all_goals grind [Giv.shown]
  | word p' p q => exact absurd hst (by simp [Giv.stores, p])
  | ring p =>
    refine ⟨tl, Nat.le_refl _, ?_⟩
    obtain ⟨all, out, next, tail, tle, ce, p7, i8, p8, p9, p10, p11, sh⟩ := h
    constructor <;> grind [Giv.shown, Giv.cur]
  | reset p q => exact absurd (h1 (.inr p)) (by rw [← hi.2.1]; exact q)
  | sent p q r =>
    refine ⟨tl, Nat.le_refl _, ?_⟩
    obtain ⟨all, out, next, tail, tle, ce, p7, i8, p8, p9, p10, p11, sh⟩ := h
    have e1 : g.shown := .inr (.inr ⟨p, r⟩)
    rw [if_pos e1] at next
    refine ⟨all, by simpa [Giv.cur, p] using out, ?_, tail, tle, ce, ?_, ?_, ?_, ?_, ?_, ?_, ?_⟩
    · rw [if_neg (by simp [Giv.shown])]
      simp only
      omega
    all_goals simp [Giv.shown]
  | told p q r =>
    refine ⟨tl, Nat.le_refl _, ?_⟩
    obtain ⟨all, out, next, tail, tle, ce, p7, i8, p8, p9, p10, p11, sh⟩ := h
    constructor <;> grind [Giv.shown, Giv.cur]
  | next p =>
    refine ⟨tl, Nat.le_refl _, ?_⟩
    have p' : g.pc = 11 ∨ g.pc = 13 := by
      have := hi.2.2
      simp only [Giv.stores, Bool.or_eq_false_iff, decide_eq_false_iff_not] at hst
      omega
    obtain ⟨all, out, next, tail, tle, ce, p7, i8, p8, p9, p10, p11, sh⟩ := h
    constructor <;> grind [Giv.shown, Giv.cur]
end Go.Proofs.YtaaffebnajjfhaaGreatDoor.T
namespace Go.Proofs.YtaaffebnajjfhaaGreatDoor.T
set_option linter.unusedVariables false
set_option linter.unusedSimpArgs false
theorem mod_ne {k n R : Nat} (h1 : k < n) (h2 : n - k < R) : k % R ≠ n % R := by
  intro h
  have hR : 0 < R := by omega
  have e1 := Nat.div_add_mod k R
  have e2 := Nat.div_add_mod n R
  rw [h] at e1
  have hd : R * (n / R) = R * (k / R) + (n - k) := by omega
  rcases Nat.lt_or_ge (k / R) (n / R) with hlt | hge
  · have := Nat.mul_le_mul_left R hlt
    rw [Nat.mul_succ] at this
    omega
  · have := Nat.mul_le_mul_left R hge
    omega
section
variable {V R hd tl : Nat} {z : GV} {B : List TV} {log : Log} {ulog H : List Nat} {g g' : Giv} {w e : Int} {d : Bool} {A : List GV}
theorem GIn.nodup (h : GIn V R z B log ulog H hd tl g) : g.out.Nodup ∧ g.out.length ≤ R ∧ ∀ x ∈ g.out, x < R := by
  have h1 : (g.free ++ g.out).Nodup := (h.all.nodup_iff).2 List.nodup_range
  have h2 := h.all.length_eq
  rw [List.length_append, List.length_range] at h2
  refine ⟨(List.nodup_append.1 h1).2.1, by omega, fun x hx => ?_⟩
  have := h.all.mem_iff.1 (List.mem_append_right _ hx)
  simpa using this
theorem GIn.apart (h : GIn V R z B log ulog H hd tl g) (h8 : 8 ≤ g.pc) (h12 : g.pc ≤ 12) (k : Nat) (h1 : hd ≤ k) (h2 : k < log.length) : (log.getD k (0, [])).1 ≠ g.d := by
  have hn := h.nodup.1
  rw [h.out.nodup_iff] at hn
  have e1 : g.cur = [g.d] := by simp [Giv.cur, h8, h12]
  rw [e1] at hn
  have hn := (List.nodup_append.1 hn).2.1
  have hn := (List.nodup_append.1 hn).2.1
  have hn := (List.nodup_append.1 hn).2.2
  refine hn _ ?_ _ (by simp)
  rw [List.mem_map]
  refine ⟨log.getD k (0, []), ?_, rfl⟩
  have : log.getD k (0, []) = (log.drop hd)[k - hd]'(by rw [List.length_drop]; omega) := by
    simp [List.getD, h2, show hd + (k - hd) = k by omega]
  rw [this]
  exact List.getElem_mem _
theorem GIn.room (h : GIn V R z B log ulog H hd tl g) (h8 : 8 ≤ g.pc) (h12 : g.pc ≤ 12) : log.length - hd < R := by
  have h1 := h.out.length_eq
  have h2 := h.nodup.2.1
  have e1 : g.cur = [g.d] := by simp [Giv.cur, h8, h12]
  rw [e1] at h1
  simp only [List.length_append, List.length_map, List.length_drop, List.length_cons, List.length_nil] at h1
  omega
theorem GIn.next_of (h : GIn V R z B log ulog H hd tl g) (h8 : g.pc ≤ 12) : log.length = g.next := by
  have := h.next
  rw [if_neg (by simp only [Giv.shown]; omega)] at this
  simpa using this
theorem put1_same (f : Nat → Nat) (a x : Nat) : put1 f a x a = x := if_pos rfl
theorem put1_other (f : Nat → Nat) (a k x : Nat) (h : k ≠ a) : put1 f a x k = f k := if_neg h
theorem put2_same (f : Nat → Nat → Nat) (a b x : Nat) : put2 f a b x a b = x := if_pos ⟨rfl, rfl⟩
theorem put2_other (f : Nat → Nat → Nat) (a b k j x : Nat) (h : k ≠ a ∨ j ≠ b) : put2 f a b x k j = f k j := if_neg (by omega)
theorem GIn.store (hN : log.length < 60000) (hr : g.ring = R) (hA : AInv V R A log hd) (h : GIn V R z B log ulog H hd tl g) (hz : z ∈ A) (hzp : z.pe = V) (hza : z.ai = log.length) (hhd : hd ≤ log.length) (hi : 8 ≤ g.pc) (hs : GStep g w g' d e) (hst : g.stores = true) :
    ∃ log', (log' = log ∨ g.pc = 12 ∧ log' = log ++ [(g.d, g.load)]) ∧ GIn V R (g.put z) B log' ulog H hd tl g' ∧ (g.put z).pe = V ∧ (g.put z).ai = log'.length ∧ z.ai ≤ (g.put z).ai ∧ ∀ k, hd ≤ k → k < (g.put z).ai → Stands R log' (g.put z) k := by
  have hp : g.pc = 8 ∨ g.pc = 9 ∨ g.pc = 10 ∨ g.pc = 12 := by
    simp only [Giv.stores, Bool.or_eq_true, decide_eq_true_eq] at hst
    omega
  have h12 : g.pc ≤ 12 := by omega
  have hap := h.apart hi h12
  have hroom := h.room hi h12
  have hnx := h.next_of h12
  have hok := hA.ok z hz hzp
  rw [hza] at hok
  obtain ⟨all, out, next, tail, tle, ce, p7, i8, p8, p9, p10, p11, sh⟩ := h
  have hcur : g.cur = [g.d] := by simp [Giv.cur, hi, h12]
  rcases hp with p | p | p | p
  · have hput : g.put z = { z with load := put2 z.load g.d g.i (g.load.getD g.i 0) } := by simp [Giv.put, p]
    rw [hput]
    have i8 := i8 p
    have p8 := p8 p
    cases hs with
    | word p' q hq =>
      refine ⟨log, .inl rfl, ⟨all, ?_, ?_, tail, tle, ce, by simp only; omega, ?_, ?_, ?_, ?_, ?_, ?_⟩, hzp, hza, Nat.le_refl _, fun k hk hk2 => ?_⟩
      · rw [hcur] at out
        simpa [Giv.cur, show 8 ≤ p' ∧ p' ≤ 12 by omega] using out
      · rw [if_neg (by simp only [Giv.shown]; omega)]; exact hnx
      · simp only; omega
      · simp only
        intro _ x hx
        by_cases e : x = g.i
        · subst e; exact put2_same _ _ _ _
        · rw [put2_other _ _ _ _ _ _ (.inr e)]; exact p8 x (by omega)
      · simp only
        intro h9 _ x hx
        by_cases e : x = g.i
        · subst e; exact put2_same _ _ _ _
        · rw [put2_other _ _ _ _ _ _ (.inr e)]; exact p8 x (by omega)
      · simp only; omega
      · simp only; omega
      · simp only [Giv.shown]; omega
      · have hk2 : k < z.ai := hk2
        have := hok k hk (by omega)
        refine ⟨this.1, this.2.1, fun x hx => ?_⟩
        show put2 _ _ _ _ _ _ = _
        rw [put2_other _ _ _ _ _ _ (.inl (hap k hk (by omega)))]
        exact this.2.2 x hx
    | _ => omega
  · have hput : g.put z = { z with len := put1 z.len g.d g.load.length } := by simp [Giv.put, p]
    rw [hput]
    cases hs with
    | next q =>
      refine ⟨log, .inl rfl, ⟨all, ?_, ?_, tail, tle, ce, by simp only; omega, by simp only; omega, by simp only; omega, ?_, ?_, ?_, ?_⟩, hzp, hza, Nat.le_refl _, fun k hk hk2 => ?_⟩
      · rw [hcur] at out
        simpa [Giv.cur, p] using out
      · rw [if_neg (by simp only [Giv.shown]; omega)]; exact hnx
      · intro _ _ x hx
        exact p9 (by omega) (by omega) x hx
      · intro _ _
        exact put1_same _ _ _
      · simp only; omega
      · simp only [Giv.shown]; omega
      · have hk2 : k < z.ai := hk2
        have := hok k hk (by omega)
        refine ⟨this.1, ?_, this.2.2⟩
        show put1 _ _ _ _ = _
        rw [put1_other _ _ _ _ (hap k hk (by omega))]
        exact this.2.1
    | _ => omega
  · have hput : g.put z = { z with avail := put1 z.avail (g.next % g.ring) g.d } := by simp [Giv.put, p]
    rw [hput]
    cases hs with
    | next q =>
      refine ⟨log, .inl rfl, ⟨all, ?_, ?_, tail, tle, ce, by simp only; omega, by simp only; omega, by simp only; omega, ?_, ?_, ?_, ?_⟩, hzp, hza, Nat.le_refl _, fun k hk hk2 => ?_⟩
      · rw [hcur] at out
        simpa [Giv.cur, p] using out
      · rw [if_neg (by simp only [Giv.shown]; omega)]; exact hnx
      · intro _ _ x hx
        exact p9 (by omega) (by omega) x hx
      · intro _ _
        exact p10 (by omega) (by omega)
      · intro _ _
        show put1 _ _ _ _ = _
        rw [hr]
        exact put1_same _ _ _
      · simp only [Giv.shown]; omega
      · have hk2 : k < z.ai := hk2
        have := hok k hk (by omega)
        refine ⟨?_, this.2⟩
        show put1 _ _ _ _ = _
        rw [hr, put1_other _ _ _ _ (mod_ne (by omega) (by omega))]
        exact this.1
    | _ => omega
  · have hput : g.put z = { z with ai := (g.next + 1) % 65536 } := by simp [Giv.put, p]
    rw [hput]
    have hmod : (g.next + 1) % 65536 = g.next + 1 := by omega
    cases hs with
    | next q =>
      have hl : (log ++ [(g.d, g.load)]).length = g.next + 1 := by rw [List.length_append, hnx]; rfl
      have hgl : (log ++ [(g.d, g.load)]).getD g.next (0, []) = (g.d, g.load) := by rw [← hnx]; exact getD_last _ _ _
      refine ⟨log ++ [(g.d, g.load)], .inr ⟨p, rfl⟩, ⟨all, ?_, ?_, tail, tle, ce, by simp only; omega, by simp only; omega, by simp only; omega, by simp only; omega, by simp only; omega, by simp only; omega, ?_⟩, hzp, ?_, ?_, fun k hk hk2 => ?_⟩
      · rw [hcur] at out
        have e1 : ({ g with pc := g.pc + 1 } : Giv).cur = [] := by simp [Giv.cur, p]
        have e2 : (log ++ [(g.d, g.load)]).drop hd = log.drop hd ++ [(g.d, g.load)] := List.drop_append_of_le_length hhd
        rw [e1, e2, List.map_append]
        simpa using out
      · rw [if_pos (by simp only [Giv.shown]; omega), hl]
      · intro _
        simp only [hgl]
      · show (g.next + 1) % 65536 = _
        omega
      · show _ ≤ (g.next + 1) % 65536
        omega
      · have hk2 : k < (g.next + 1) % 65536 := hk2
        by_cases e : k = g.next
        · subst e
          unfold Stands
          rw [hgl]
          exact ⟨p11 (by omega) (by omega), p10 (by omega) (by omega), p9 (by omega) (by omega)⟩
        · exact (hok k hk (by omega)).grow (by omega)
    | _ => omega
end
end Go.Proofs.YtaaffebnajjfhaaGreatDoor.T
