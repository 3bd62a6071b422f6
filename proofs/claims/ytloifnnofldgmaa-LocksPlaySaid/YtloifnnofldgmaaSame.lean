/- Locks: the contract of Same. -/
import Derived.Test.YtloifnnofldgmaaNew
import Derived.Test.YtloifnnofldgmaaArr
import Derived.WalkSmall
namespace Go.Proofs.Ytloifnnofldgmaa.Locks
set_option linter.unusedVariables false
set_option linter.unusedSimpArgs false
open Go.RowKit

attribute [local go_sem ↓] Go.wp_at_zero Go.wp_at_succ

theorem same_nil_r (b : Nat) (w : World) :
    Calls Try.prog 16 #[.pointer (some ⟨b, 0, none⟩), .pointer none] w fun e w' => e = .returned (.bool false) ∧ w = w' := by
  go_enter Try.func16, Try.ntmps16
  go_wp2_with fail
  go_ret
  exact ⟨rfl, rfl⟩

theorem same_nil_l (b : Nat) (w : World) :
    Calls Try.prog 16 #[.pointer none, .pointer (some ⟨b, 0, none⟩)] w fun e w' => e = .returned (.bool false) ∧ w = w' := by
  have hne : ∀ w, (binOp .eql 23 (.pointer none) (.pointer (some ⟨b, 0, none⟩))).run Try.prog w = .ok (.bool false) w := fun _ => by kernel_rfl
  go_enter Try.func16, Try.ntmps16
  go_wp2_with fail
  go_ret
  exact ⟨rfl, rfl⟩

theorem same_nil (w : World) :
    Calls Try.prog 16 #[.pointer none, .pointer none] w fun e w' => e = .returned (.bool true) ∧ w = w' := by
  go_enter Try.func16, Try.ntmps16
  go_wp2_with fail
  go_ret
  exact ⟨rfl, rfl⟩

/-- A load of a whole array, in a region that only reads. -/
theorem quiet_row {P : Program} {K : Act → Prop} {op : Oper} {a : Act} {w : World} (ty : TypeId) (x : Operand) (ho : op.op = .load ty x)
    (b o : Nat) (hx : a.eval x = .pointer (some ⟨b, o, none⟩)) (cs : List Value) (d : TypeDesc) (hc : w.rangeAt b o cs)
    (hu : P.underlying ty = some d) (hd : d.isRow = true) (hi : (P.info? ty).map (·.size) = some cs.length)
    (h : K (a.put op.dst (.agg cs.toArray))) : op.quiet P a (fun w' => ∃ n, w' = w.drewN n) K := by
  refine ⟨_, fun u hu' => ?_, h⟩
  obtain ⟨n, rfl⟩ := hu'
  have hc' : (w.drewN n).rangeAt b o cs := hc
  unfold Oper.quietAt execOp
  simp only [ho, hx, run_loadAt_mid (w.drewN n) b o ty cs d hc' hu hd hi, Sem.run_bind, Result.andThen_ok, Sem.run_pure]
  exact ⟨rfl, rfl⟩

/-- Do two banks have the same? -/
def sameB (k k' : Bk) : Bool := decide (k.cores = k'.cores) && (decide (k.n = k'.n) && decide (k.own = k'.own))

set_option maxHeartbeats 1000000 in
theorem same_any (b b' : Nat) (k k' : Bk) (w : World) (h : At w b k) (h' : At w b' k') (ok : k.Ok) (ok' : k'.Ok) :
    Calls Try.prog 16 #[.pointer (some ⟨b, 0, none⟩), .pointer (some ⟨b', 0, none⟩)] w fun e w' => e = .returned (.bool (sameB k k')) ∧ Below w.heap.size w w' := by
  have c0 := h.cores
  have c1 := h'.cores
  have n0 := h.n
  have n1 := h'.n
  have r0 := own_range h
  have r1 := own_range h'
  have hu49 := Try.underlying49
  have hi49 : (Try.prog.info? 49).map (·.size) = some (k.own.map (Value.int .i64)).length := by rw [List.length_map, ok.len]; exact Try.info49
  have hi49' : (Try.prog.info? 49).map (·.size) = some (k'.own.map (Value.int .i64)).length := by rw [List.length_map, ok'.len]; exact Try.info49
  obtain ⟨i3, hi3⟩ : ∃ i, Try.prog.info? 3 = some i := by
    obtain ⟨i0, hi, -⟩ := info_parts Try.info3
    exact ⟨i0, hi⟩
  have heq : ∀ w, (Op.equalIn 10000 49 (.agg (k.own.map (Value.int .i64)).toArray) (.agg (k'.own.map (Value.int .i64)).toArray)).run Try.prog w = .ok (decide (k.own = k'.own)) w :=
    fun w => Arr.run_equal_ints 49 3 9998 16 i3 Try.underlying3 Try.underlying49 hi3 (by kernel_rfl) k.own k'.own ok.len ok'.len w
  have hres : sameB k k' = (decide (k.cores = k'.cores) && (decide (k.n = k'.n) && decide (k.own = k'.own))) := rfl
  rw [hres]
  clear hres h h' ok ok' hi3
  generalize hO : k.own = own at *
  generalize hO' : k'.own = own' at *
  clear hO hO'
  generalize k.cores = cores at *
  generalize k'.cores = cores' at *
  generalize k.n = n at *
  generalize k'.n = n' at *
  have hB := Below.refl w.heap.size w
  by_cases hc : cores = cores'
  · subst hc
    by_cases hn : n = n'
    · subst hn
      go_enter Try.func16, Try.ntmps16
      go_wp2_with fail
      refine wp_region_quiet_lit (by kernel_rfl) (by kernel_rfl) ?_
      repeat (go_big_quiet_step (fail))
      refine BigFrame.wpQuiet_want rfl fun K hK => quiet_row 49 _ rfl b 2 rfl _ _ r0 hu49 rfl hi49 (hK _ ?_)
      simp only [Act.put, List.setIfInBounds_toArray, List.set_cons_zero, List.set_cons_succ]
      repeat (go_big_quiet_step (fail))
      refine BigFrame.wpQuiet_want rfl fun K hK => quiet_row 49 _ rfl b' 2 rfl _ _ r1 hu49 rfl hi49' (hK _ ?_)
      simp only [Act.put, List.setIfInBounds_toArray, List.set_cons_zero, List.set_cons_succ]
      repeat (go_big_quiet_step (fail))
      refine wpQuiet_nil ?_
      rintro _ ⟨nq, rfl⟩
      go_wp2_with fail
      go_ret
      exact ⟨by simp, below_drewN hB _⟩
    · have hd : (n == n') = false := by rw [beq_eq_false_iff_ne]; exact hn
      have hd2 : decide (n = n') = false := by simpa using hn
      go_enter Try.func16, Try.ntmps16
      go_wp2_with fail
      go_quiet (fail)
      go_wp2_with fail
      go_ret
      exact ⟨by simp [hd2], below_drewN hB _⟩
  · have hd : (cores == cores') = false := by rw [beq_eq_false_iff_ne]; exact hc
    have hd2 : decide (cores = cores') = false := by simpa using hc
    go_enter Try.func16, Try.ntmps16
    go_wp2_with fail
    go_quiet (fail)
    go_wp2_with fail
    go_ret
    exact ⟨by simp [hd2], below_drewN hB _⟩

end Go.Proofs.Ytloifnnofldgmaa.Locks
