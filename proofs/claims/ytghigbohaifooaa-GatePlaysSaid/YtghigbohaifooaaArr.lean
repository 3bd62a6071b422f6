/- Arrays of one-cell elements, over any program: equality, element by element. -/
import Derived.WalkKit
import Derived.DeepKeys
import Derived.ChangeKeysEq
import Derived.Laws.StructEq
namespace Go.Proofs.Ytghigbohaifooaa.Arr
set_option linter.unusedVariables false
set_option linter.unusedSimpArgs false
open Go.RowKit

/-- Do two lists hold the same at these places? -/
def sameAt {α : Type} [BEq α] (d : α) (xs ys : List α) (is : List Nat) : Bool := is.all fun i => xs.getD i d == ys.getD i d

theorem run_items {P : Program} {α : Type} [BEq α] (dflt : α) (f : α → Value) (e : TypeId) (d : Nat) (he : P.plainKey e = true)
    (heq : ∀ (a b : α) (w : World), (Op.equalIn (d + 1) e (f a) (f b)).run P w = .ok (a == b) w) (xs ys : List α) (w : World) :
    ∀ is : List Nat, (∀ i ∈ is, i < xs.length ∧ i < ys.length) → (Op.eqItems (d + 1) e 1 (xs.map f).toArray (ys.map f).toArray is).run P w = .ok (sameAt dflt xs ys is) w := by
  intro is
  induction is with
  | nil => intro _; rfl
  | cons i is ih =>
    intro h
    obtain ⟨hx, hy⟩ := h i (by simp)
    have ih := ih fun j hj => h j (by simp [hj])
    have px : (part e (xs.map f).toArray (i * 1)).run P w = .ok (f (xs.getD i dflt)) w := run_part_plain w he (by simp [hx])
    have py : (part e (ys.map f).toArray (i * 1)).run P w = .ok (f (ys.getD i dflt)) w := run_part_plain w he (by simp [hy])
    simp only [Op.eqItems, Sem.run_bind, px, py, heq, Result.andThen_ok]
    unfold sameAt
    cases hq : (xs.getD i dflt == ys.getD i dflt)
    · simp [hx, hy] at hq
      simp [hx, hy, hq]
    · simp only [Bool.not_true, Bool.false_eq_true, if_false]
      rw [ih]
      unfold sameAt
      rw [List.all_cons, hq, Bool.true_and]

theorem sameAt_range {α : Type} [BEq α] [LawfulBEq α] (d : α) (xs ys : List α) (h : xs.length = ys.length) : sameAt d xs ys (List.range xs.length) = true ↔ xs = ys := by
  unfold sameAt
  rw [List.all_eq_true]
  constructor
  · intro g
    apply List.ext_getElem h
    intro i h1 h2
    have := g i (by simpa using h1)
    simpa [h1, h2] using this
  · rintro rfl i hi
    simp

theorem run_equal_list {P : Program} {α : Type} [BEq α] [LawfulBEq α] [DecidableEq α] (dflt : α) (f : α → Value) (t e : TypeId) (d n : Nat) (i : TypeInfo) (he : P.plainKey e = true) (hu : P.underlying t = some (.array n e)) (hi : P.info? e = some i) (h1 : P.cellsOf e = 1)
    (heq : ∀ (a b : α) (w : World), (Op.equalIn (d + 1) e (f a) (f b)).run P w = .ok (a == b) w) (xs ys : List α) (hx : xs.length = n) (hy : ys.length = n) (w : World) :
    (Op.equalIn (d + 2) t (.agg (xs.map f).toArray) (.agg (ys.map f).toArray)).run P w = .ok (decide (xs = ys)) w := by
  rw [run_equalIn_array w (d + 1) _ _ hu hi, h1, run_items dflt f e d he heq xs ys w (List.range n) (fun j hj => by simp at hj; omega)]
  congr 1
  subst hx
  rw [Bool.eq_iff_iff, sameAt_range dflt xs ys hy.symm]
  simp

theorem run_equal_ints {P : Program} (t e : TypeId) (d n : Nat) (i : TypeInfo) (hue : P.underlying e = some (.int .i64)) (hu : P.underlying t = some (.array n e)) (hi : P.info? e = some i) (h1 : P.cellsOf e = 1)
    (xs ys : List Int) (hx : xs.length = n) (hy : ys.length = n) (w : World) :
    (Op.equalIn (d + 2) t (.agg (xs.map (Value.int .i64)).toArray) (.agg (ys.map (Value.int .i64)).toArray)).run P w = .ok (decide (xs = ys)) w :=
  run_equal_list 0 (Value.int .i64) t e d n i (by simp [Program.plainKey, hue]) hu hi h1 (fun a b w => run_equalIn_int w d e .i64 .i64 a b hue) xs ys hx hy w

theorem run_equal_bools {P : Program} (t e : TypeId) (d n : Nat) (i : TypeInfo) (hue : P.underlying e = some .bool) (hu : P.underlying t = some (.array n e)) (hi : P.info? e = some i) (h1 : P.cellsOf e = 1)
    (xs ys : List Bool) (hx : xs.length = n) (hy : ys.length = n) (w : World) :
    (Op.equalIn (d + 2) t (.agg (xs.map Value.bool).toArray) (.agg (ys.map Value.bool).toArray)).run P w = .ok (decide (xs = ys)) w :=
  run_equal_list false Value.bool t e d n i (by simp [Program.plainKey, hue]) hu hi h1 (fun a b w => run_equalIn_bool w d e a b hue) xs ys hx hy w

end Go.Proofs.Ytghigbohaifooaa.Arr
