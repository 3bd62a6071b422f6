/- GrantOnce: append of a row onto a row of the call's own, as one step of a region that draws. -/
import Derived.Test.YtgkjiemjghmgmaaOnceRow
import Derived.Maps.AppendAt
import Derived.RegionTactic
import Derived.Deep.RegionHeld3
namespace Go.Proofs.Ytgkjiemjghmgmaa.Grants
set_option linter.unusedVariables false
set_option linter.unusedSimpArgs false
open Go.RowKit Go.Proofs.YtgkjiemjghmgmaaW.PrintWords

theorem step_rows {ops : Array Oper} {o : Oper} {a : Act} {K : Act → World → Prop} {Q : Exit → Act → World → Prop} {E : Prop} {W : World} (hgd : o.guard = none) (s x : Operand)
    (ho : o.op = .call { callee := .builtin .append, args := #[s, x], argTypes := #[26, 26] }) (base : Nat) {ok : Nat → Prop}
    (v : Value) (xs ys : List Int) (hs : a.eval s = v) (HO : Kd.R (Kd.int .i64) 3 W base ok v xs) (hfresh : ∀ k, W.heap.size ≤ k → ok k)
    (ad : Addr) (m c : Nat) (hx : a.eval x = .slice (some ad) m c) (HR : Kd.C (Kd.int .i64) W (some ad) m ys) (hl : xs.length + m ≤ 1000) (hbase : base ≤ W.heap.size)
    (h : ∀ v1 w1, Kd.R (Kd.int .i64) 3 w1 base ok v1 (xs ++ ys) → W.grownBy w1 v.ownBlock → (v1.ownBlock = v.ownBlock ∨ ∃ b, v1.ownBlock = some b ∧ W.heap.size ≤ b) → K (a.put o.dst v1) w1) :
    if Region.wanted o (yielded ops a.tmps) = true then Oper.wp Try.prog o a W K Q else E := by
  have hw : Region.wanted o (yielded ops a.tmps) = true := by simp [Region.wanted, hgd]
  rw [if_pos hw]
  obtain ⟨i0, hi, hz⟩ := Option.map_eq_some_iff.1 once_info3
  simp only [Prod.mk.injEq] at hz
  obtain ⟨hz0, hz1, hz2⟩ := hz
  have hr := Kd.reads_of_C (enc := Value.int .i64) (d := (0 : Int)) (h1 := fun _ => rfl) HR
  obtain ⟨v', w', hrun, hown, hg, -, hat⟩ := run_append_own_at (P := Try.prog) W base 26 o.type 3 i0 (.int .i64 0) 1 8 Try.underlying26 hi hz0 hz1 hz2 rfl (by decide) v xs.length _ (Kd.own_of_R HO) ad m c (ys.map (Value.int .i64)) (by rw [List.length_map, hr.1]; omega)
    (fun j u hu => by
      rw [List.getElem?_map] at hu
      obtain ⟨y, hy, rfl⟩ := Option.map_eq_some_iff.1 hu
      have hjm : j < m := by
        have := (List.getElem?_eq_some_iff.1 hy).1
        rw [hr.1] at this
        exact this
      obtain ⟨ad', e, hc⟩ := hr.2.2 (by omega)
      injection e with e
      subst e
      rw [hc j hjm, List.getD_eq_getElem?_getD, hy]
      rfl)
    (fun u hu => by
      obtain ⟨y, -, rfl⟩ := List.mem_map.1 hu
      rfl) (by unfold maxLen; omega) (by omega) hbase
  have hat' : v'.ownBlock = v.ownBlock ∨ ∃ b, v'.ownBlock = some b ∧ W.heap.size ≤ b := by
    rcases hat with h1 | h1
    · exact .inl h1
    · exact .inr ⟨_, h1, Nat.le_refl _⟩
  unfold Oper.wp execOp
  simp only [ho, resolve, invoke, builtin, Sem.run_bind, Sem.run_pure, Result.andThen_ok, List.map_toArray, List.map_cons, List.map_nil, hs, hx, hrun]
  refine h v' w' ?_ hg hat'
  have hown' : w'.ownsRow base 3 1 v' (xs ++ ys).length (encs (Value.int .i64) (xs ++ ys)) := by
    rw [List.length_append, hr.1]
    unfold encs at *
    rw [List.map_append]
    exact hown
  refine Kd.R_of_own hown' (fun k hk => ?_)
  rcases hat' with e1 | ⟨b, e1, hbb⟩
  · exact HO.1 k (by rw [← e1]; exact hk)
  · rw [e1] at hk
    injection hk with hk
    subst hk
    exact hfresh _ hbb

/-- The empty literal, a row of the call's own. -/
theorem lit_row (u : World) : Kd.R (Kd.int .i64) 3 (u.alloc (.cells #[] 3)) u.heap.size (fun _ => True) (.slice (some ⟨u.heap.size, 0, none⟩) 0 0) [] := by
  refine ⟨fun _ _ => trivial, [], ?_, Reps.none _ _⟩
  have := World.ownsRow_lit (base := u.heap.size) (e := 3) (size := 1) u #[] 0 (Nat.le_refl _) (by decide) rfl
  exact this

/-- Nothing is appended. -/
theorem append_nil {W : World} {base : Nat} {v : Value} {n : Nat} {xs : List Value} (ty : TypeId) (c : Nat) (hown : W.ownsRow base 3 1 v n xs) : (Builtin.append_ #[26, 26] ty #[v, .slice none 0 c]).run Try.prog W = .ok v W := by
  have ht := Try.underlying26
  obtain ⟨i0, hi, hz⟩ := Option.map_eq_some_iff.1 once_info3
  rcases hown.2 with ⟨rfl, rfl⟩ | ⟨g, cap, cur, rfl, _, _, hnc, _⟩
  · simp [Builtin.append_, run_underlying ht, sizeOf, typeInfo, hi, Builtin.lenOf, Builtin.firstCells]
  · simp [Builtin.append_, run_underlying ht, sizeOf, typeInfo, hi, Builtin.lenOf, Builtin.firstCells, hnc, storeCells]

theorem step_rows' {ops : Array Oper} {o : Oper} {a : Act} {K : Act → World → Prop} {Q : Exit → Act → World → Prop} {E : Prop} {W : World} (hgd : o.guard = none) (s x : Operand)
    (ho : o.op = .call { callee := .builtin .append, args := #[s, x], argTypes := #[26, 26] }) (base : Nat) {ok : Nat → Prop}
    (v : Value) (xs ys : List Int) (hs : a.eval s = v) (HO : Kd.R (Kd.int .i64) 3 W base ok v xs) (hfresh : ∀ k, W.heap.size ≤ k → ok k)
    (A : Option Addr) (m c : Nat) (hx : a.eval x = .slice A m c) (HR : Kd.C (Kd.int .i64) W A m ys) (hl : xs.length + m ≤ 1000) (hbase : base ≤ W.heap.size)
    (h : ∀ v1 w1, Kd.R (Kd.int .i64) 3 w1 base ok v1 (xs ++ ys) → W.grownBy w1 v.ownBlock → (v1.ownBlock = v.ownBlock ∨ ∃ b, v1.ownBlock = some b ∧ W.heap.size ≤ b) → K (a.put o.dst v1) w1) :
    if Region.wanted o (yielded ops a.tmps) = true then Oper.wp Try.prog o a W K Q else E := by
  cases A with
  | some ad => exact step_rows hgd s x ho base v xs ys hs HO hfresh ad m c hx HR hl hbase h
  | none =>
    have hw : Region.wanted o (yielded ops a.tmps) = true := by simp [Region.wanted, hgd]
    rw [if_pos hw]
    have hr := Kd.reads_of_C (enc := Value.int .i64) (d := (0 : Int)) (h1 := fun _ => rfl) HR
    have hm : m = 0 := by
      rcases Nat.eq_zero_or_pos m with h0 | h0
      · exact h0
      · obtain ⟨ad, e, -⟩ := hr.2.2 h0
        exact absurd e (by simp)
    subst hm
    have hy : ys = [] := List.eq_nil_of_length_eq_zero hr.1
    subst hy
    have hrun := append_nil o.type c (Kd.own_of_R HO)
    unfold Oper.wp execOp
    simp only [ho, resolve, invoke, builtin, Sem.run_bind, Sem.run_pure, Result.andThen_ok, List.map_toArray, List.map_cons, List.map_nil, hs, hx, hrun]
    exact h v W (by rw [List.append_nil]; exact HO) (grown_self _ _) (.inl rfl)

end Go.Proofs.Ytgkjiemjghmgmaa.Grants
