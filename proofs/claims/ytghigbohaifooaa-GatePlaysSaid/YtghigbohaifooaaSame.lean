/- Gate: the contract of Same. -/
import Derived.Test.YtghigbohaifooaaNew
import Derived.Test.YtghigbohaifooaaArr
namespace Go.Proofs.Ytghigbohaifooaa.Gates
set_option linter.unusedVariables false
set_option linter.unusedSimpArgs false
open Go.RowKit

theorem same_nil_r (b : Nat) (w : World) :
    Calls Try.prog 23 #[.pointer (some ⟨b, 0, none⟩), .pointer none] w fun e w' => e = .returned (.bool false) ∧ w = w' := by
  go_enter Try.func23, Try.ntmps23
  go_wp2_with fail
  go_ret
  exact ⟨rfl, rfl⟩

theorem same_nil_l (b : Nat) (w : World) :
    Calls Try.prog 23 #[.pointer none, .pointer (some ⟨b, 0, none⟩)] w fun e w' => e = .returned (.bool false) ∧ w = w' := by
  have hne : ∀ w, (binOp .eql 24 (.pointer none) (.pointer (some ⟨b, 0, none⟩))).run Try.prog w = .ok (.bool false) w := fun _ => by kernel_rfl
  go_enter Try.func23, Try.ntmps23
  go_wp2_with fail
  go_ret
  exact ⟨rfl, rfl⟩

theorem same_nil (w : World) :
    Calls Try.prog 23 #[.pointer none, .pointer none] w fun e w' => e = .returned (.bool true) ∧ w = w' := by
  go_enter Try.func23, Try.ntmps23
  go_wp2_with fail
  go_ret
  exact ⟨rfl, rfl⟩

/-- Do two gates have the same? -/
def sameG (k k' : Gt) : Bool := decide (k.cores = k'.cores) && (decide (k.eps = k'.eps) && decide (k.held = k'.held))

theorem part_agg {P : Program} (t : TypeId) (cs : Array Value) (off n : Nat) (w : World) (ha : (isAgg t).run P w = .ok true w) (hs : (sizeOf t).run P w = .ok n w) : (part t cs off).run P w = .ok (.agg (cs.extract off (off + n))) w := by
  unfold part
  simp [Sem.run_bind, ha, hs]

theorem eq_gate (k k' : Gt) (ok : k.Ok) (ok' : k'.Ok) (w : World) : (Op.equalIn 10000 59 (.agg k.cells.toArray) (.agg k'.cells.toArray)).run Try.prog w = .ok (sameG k k') w := by
  obtain ⟨i3, hi3⟩ : ∃ i, Try.prog.info? 3 = some i := by
    obtain ⟨i0, hi, -⟩ := info_parts Try.info3
    exact ⟨i0, hi⟩
  obtain ⟨i4, hi4⟩ : ∃ i, Try.prog.info? 4 = some i := by
    have : (Try.prog.info? 4).isSome = true := by kernel_rfl
    exact Option.isSome_iff_exists.1 this
  have hf : (Try.prog.fieldsOf 59).toList = [{ name := "cores", type := 3, offset := 0, embedded := false, tag := "", pkgPath := "switchyard/gate", byteOffset := 0 }, { name := "epochs", type := 56, offset := 1, embedded := false, tag := "", pkgPath := "switchyard/gate", byteOffset := 8 }, { name := "held", type := 57, offset := 9, embedded := false, tag := "", pkgPath := "switchyard/gate", byteOffset := 72 }] := by kernel_rfl
  have p0 : ∀ (k : Gt) (w : World), (part 3 k.cells.toArray 0).run Try.prog w = .ok (.int .i64 k.cores) w := fun k w => run_part_plain w (by kernel_rfl) (by simp [Gt.cells])
  have p1 : ∀ (k : Gt) (w : World), k.Ok → (part 56 k.cells.toArray 1).run Try.prog w = .ok (.agg (k.eps.map (Value.int .i64)).toArray) w := fun k w ok => by
    rw [part_agg 56 _ 1 8 w (by kernel_rfl) (by kernel_rfl)]
    have : k.cells.toArray.extract 1 (1 + 8) = (k.eps.map (Value.int .i64)).toArray := by
      have hl := ok.le
      simp [Gt.cells, List.extract_eq_take_drop, List.take_append, hl]
    rw [this]
  have p2 : ∀ (k : Gt) (w : World), k.Ok → (part 57 k.cells.toArray 9).run Try.prog w = .ok (.agg (k.held.map Value.bool).toArray) w := fun k w ok => by
    rw [part_agg 57 _ 9 8 w (by kernel_rfl) (by kernel_rfl)]
    have : k.cells.toArray.extract 9 (9 + 8) = (k.held.map Value.bool).toArray := by
      have hl := ok.le
      have hh := ok.lh
      simp [Gt.cells, List.extract_eq_take_drop, List.drop_append, hl]
      rw [List.take_of_length_le (by simp [hh])]
    rw [this]
  have q0 : ∀ w, (Op.equalIn 9999 3 (.int .i64 k.cores) (.int .i64 k'.cores)).run Try.prog w = .ok (k.cores == k'.cores) w := fun w => run_equalIn_int w 9998 3 .i64 .i64 _ _ Try.underlying3
  have q1 : ∀ w, (Op.equalIn 9999 56 (.agg (k.eps.map (Value.int .i64)).toArray) (.agg (k'.eps.map (Value.int .i64)).toArray)).run Try.prog w = .ok (decide (k.eps = k'.eps)) w := fun w => Arr.run_equal_ints 56 3 9997 8 i3 Try.underlying3 Try.underlying56 hi3 (by kernel_rfl) _ _ ok.le ok'.le w
  have q2 : ∀ w, (Op.equalIn 9999 57 (.agg (k.held.map Value.bool).toArray) (.agg (k'.held.map Value.bool).toArray)).run Try.prog w = .ok (decide (k.held = k'.held)) w := fun w => Arr.run_equal_bools 57 4 9997 8 i4 Try.underlying4 Try.underlying57 hi4 (by kernel_rfl) _ _ ok.lh ok'.lh w
  rw [run_equalIn_struct w 9999 59 _ _ (by kernel_rfl) (by kernel_rfl), hf]
  unfold sameG
  simp only [Op.eqFields, Sem.run_bind, p0, p1 k _ ok, p1 k' _ ok', p2 k _ ok, p2 k' _ ok', q0, q1, q2, Result.andThen_ok, Sem.run_ite, Sem.run_pure]
  by_cases e0 : k.cores = k'.cores <;> by_cases e1 : k.eps = k'.eps <;> by_cases e2 : k.held = k'.held <;> simp [e0, e1, e2]

/-- A load of a whole struct at the head of its block, in a region that only reads. -/
theorem quiet_row {P : Program} {K : Act → Prop} {op : Oper} {a : Act} {w : World} (ty : TypeId) (x : Operand) (ho : op.op = .load ty x)
    (b o : Nat) (hx : a.eval x = .pointer (some ⟨b, o, none⟩)) (cs : List Value) (d : TypeDesc) (hc : w.rangeAt b o cs)
    (hu : P.underlying ty = some d) (hd : d.isRow = true) (hi : (P.info? ty).map (·.size) = some cs.length)
    (h : K (a.put op.dst (.agg cs.toArray))) : op.quiet P a (fun w' => ∃ n, w' = w.drewN n) K := by
  refine ⟨_, fun u hu' => ?_, h⟩
  obtain ⟨n, rfl⟩ := hu'
  have hc' : (w.drewN n).rangeAt b o cs := hc
  unfold Oper.quietAt execOp
  simp only [ho, hx, run_loadAt_mid (w.drewN n) b o ty cs d hc' hu hd hi, Sem.run_bind, Result.andThen_ok, Sem.run_pure]
  exact ⟨rfl, rfl⟩

theorem whole_range {w : World} {b : Nat} {k : Gt} (h : At w b k) : w.rangeAt b 0 k.cells := fun j v hv => by
  rw [h.cell, Nat.zero_add]; exact hv

set_option maxHeartbeats 1000000 in
theorem same_any (b b' : Nat) (k k' : Gt) (w : World) (h : At w b k) (h' : At w b' k') (ok : k.Ok) (ok' : k'.Ok) :
    Calls Try.prog 23 #[.pointer (some ⟨b, 0, none⟩), .pointer (some ⟨b', 0, none⟩)] w fun e w' => e = .returned (.bool (sameG k k')) ∧ Below w.heap.size w w' := by
  have r0 := whole_range h
  have r1 := whole_range h'
  have hu59 := Try.underlying59
  have hi59 : (Try.prog.info? 59).map (·.size) = some k.cells.length := by rw [cells_len ok]; exact info59
  have hi59' : (Try.prog.info? 59).map (·.size) = some k'.cells.length := by rw [cells_len ok']; exact info59
  have heq := eq_gate k k' ok ok'
  have hB := Below.refl w.heap.size w
  go_enter Try.func23, Try.ntmps23
  go_wp2_with fail
  refine wp_region_quiet_lit (by kernel_rfl) (by kernel_rfl) ?_
  repeat (go_big_quiet_step (fail))
  refine BigFrame.wpQuiet_want rfl fun K hK => quiet_row 59 _ rfl b 0 rfl _ _ r0 hu59 rfl hi59 (hK _ ?_)
  simp only [Act.put, List.setIfInBounds_toArray, List.set_cons_zero, List.set_cons_succ]
  repeat (go_big_quiet_step (fail))
  refine BigFrame.wpQuiet_want rfl fun K hK => quiet_row 59 _ rfl b' 0 rfl _ _ r1 hu59 rfl hi59' (hK _ ?_)
  simp only [Act.put, List.setIfInBounds_toArray, List.set_cons_zero, List.set_cons_succ]
  repeat (go_big_quiet_step (fail))
  refine wpQuiet_nil ?_
  rintro _ ⟨nq, rfl⟩
  go_wp2_with fail
  go_ret
  exact ⟨rfl, below_drewN hB _⟩

end Go.Proofs.Ytghigbohaifooaa.Gates
