/- An argument that is a slice of structs of ints, read as a list of lists of numbers; and what the rows of the laws need. -/
import Derived.WalkKit
import Derived.ProofKit
import Derived.OpenShut
import Derived.ChangeOld
import Derived.Below
import Derived.Lib.SmallJoins
import Derived.Deep.Slices
import Derived.Deep.Fields
import Derived.ChangeSame
namespace Go.Proofs.Ytgkjiemjghmgmaa.Ops
open Go.ChangeShapes Go.WideShapes Go.ChangeAt Go.RowKit Go.Deep
set_option linter.unusedVariables false
set_option linter.unusedSimpArgs false

section
variable {H : Type} {enc : TypeId × Value → H} {P : Program} {w : World} {base : Nat} {spare : Nat → Bool} {held : Bool}
theorem open_slice_fields {t e : TypeId} {fs : Array Field} {fuel : Nat} {cs : List Value} {x : DataW H × List MemPlace} (ht : P.underlying t = some (.slice e)) (he : P.underlying e = some (.struct fs))
    (hone : oneCellFields P fs = true) (hC : P.cellsOf e = fs.size) (h : DataW.trod enc P w base spare held fuel t cs = some x) :
    (cs = [.slice none 0 0] ∧ x = (.nil, [])) ∨
    ∃ (a : Addr) (len cap m : Nat) (D : Nat → DataW H) (Pl : Nat → List MemPlace), cs = [.slice (some a) len cap] ∧ base ≤ a.block ∧ len ≤ cap ∧ cap ≤ maxLen ∧ m = (if spare a.block then cap else len) ∧
      x = (.slice ((List.range len).map D) ((List.range (m - len)).map fun j => D (len + j)), MemPlace.row a (m * fs.size) ++ (List.range m).flatMap Pl) ∧
      ∀ i, i < m → ∃ (ys : List (DataW H × List MemPlace)) (n : Nat), D i = .agg (ys.map (·.1)) ∧ Pl i = ys.flatMap (·.2) ∧ ys.length = fs.size ∧
        ∀ (j : Nat) (f : Field), fs[j]? = some f → ∃ (v : Value) (y : DataW H × List MemPlace), w.cell? (a.add (i * fs.size + j)) = some v ∧ ys[j]? = some y ∧ DataW.trod enc P w base spare held n f.type [v] = some y := by
  rcases open_slice ht h with h0 | ⟨a, len, cap, m, n, D, Pl, hcs, hb, hl, hm, hmm, hx, hi⟩
  · exact .inl h0
  · refine .inr ⟨a, len, cap, m, D, Pl, hcs, hb, hl, hm, hmm, by rw [hC] at hx; exact hx, fun i him => ?_⟩
    obtain ⟨cs', hc, ht'⟩ := hi i him
    rw [hC] at hc
    obtain ⟨ys, n', hn', hy, hlen, hyl, hf⟩ := DataW.trod_struct he ht'
    obtain ⟨_, hcl, hat⟩ := World.cells?_some hc
    simp only [Prod.mk.injEq] at hy
    refine ⟨ys, n', hy.1, hy.2, hyl, fun j f hj => ?_⟩
    obtain ⟨ho, hk⟩ := hone_of hone j f hj
    have hjl : j < fs.size := (Array.getElem?_eq_some_iff.1 hj).1
    have hcell := hat j hjl
    have hv : cs'[j]? = some (cs'[j]'(by omega)) := List.getElem?_eq_getElem (by omega)
    have h1 := hf j f hj
    rw [ho, hk] at h1
    have hone' : (cs'.drop j).take 1 = [cs'[j]'(by omega)] := by
      rw [List.drop_eq_getElem_cons (by omega)]
      rfl
    rw [hone'] at h1
    have hys : ys[j]? = some (ys[j]'(by omega)) := List.getElem?_eq_getElem (by omega)
    refine ⟨_, _, ?_, hys, h1.trans hys⟩
    rw [← Go.Deep.add_add, hcell, hv]
end

/-- The slice value holds these numbers, element by element, n numbers each; it lies below block B. -/
def OpsAt (w : World) (B n : Nat) (v : Value) (ops : List (List Int)) : Prop :=
  ∃ A len cap, v = .slice A len cap ∧ ops.length = len ∧ len ≤ maxLen ∧ (∀ l ∈ ops, l.length = n ∧ ∀ x ∈ l, -9223372036854775808 ≤ x ∧ x ≤ 9223372036854775807) ∧
    (0 < len → ∃ b off, A = some ⟨b, off, none⟩ ∧ b < B ∧ ∀ i j, i < len → j < n → w.cell? ⟨b, off + i * n + j, none⟩ = some (.int .i64 ((ops.getD i []).getD j 0)))

theorem OpsAt.keep {w w' : World} {B n : Nat} {v : Value} {ops : List (List Int)} (h : OpsAt w B n v ops) (hb : ∀ k, k < B → w'.heap[k]? = w.heap[k]?) : OpsAt w' B n v ops := by
  obtain ⟨A, len, cap, hv, hl, hm, hr, hc⟩ := h
  refine ⟨A, len, cap, hv, hl, hm, hr, fun h0 => ?_⟩
  obtain ⟨b, off, hA, hB, hcell⟩ := hc h0
  exact ⟨b, off, hA, hB, fun i j hi hj => (World.cell?_of_block (w := w) (hb b hB)).trans (hcell i j hi hj)⟩

theorem OpsAt.below {w w' : World} {B n : Nat} {v : Value} {ops : List (List Int)} (h : OpsAt w B n v ops) (hb : Below B w w') : OpsAt w' B n v ops := h.keep hb.block

theorem choose_list {α : Type} (n : Nat) (p : Nat → α → Prop) (h : ∀ i, i < n → ∃ x, p i x) : ∃ l : List α, l.length = n ∧ ∀ i x, l[i]? = some x → p i x := by
  induction n with
  | zero => exact ⟨[], rfl, fun i x hx => by simp at hx⟩
  | succ n ih =>
    obtain ⟨l, hl, hp⟩ := ih fun i hi => h i (by omega)
    obtain ⟨x, hx⟩ := h n (by omega)
    refine ⟨l ++ [x], by simp [hl], fun i y hy => ?_⟩
    by_cases hi : i < n
    · rw [List.getElem?_append_left (by omega)] at hy
      exact hp i y hy
    · rw [List.getElem?_append_right (by omega)] at hy
      have hi0 : i - l.length = 0 := by
        have := (List.getElem?_eq_some_iff.1 hy).1
        simp at this
        omega
      rw [hi0] at hy
      simp at hy
      subst hy
      have : i = n := by omega
      subst this
      exact hx

theorem opsAt_of {H : Type} {enc : TypeId × Value → H} {P : Program} {w : World} {t e : TypeId} {fs : Array Field} {fuel : Nat} {A : Option Addr} {len cap : Nat} {x : DataW H × List MemPlace} (ht : P.underlying t = some (.slice e)) (he : P.underlying e = some (.struct fs))
    (hone : oneCellFields P fs = true) (hC : P.cellsOf e = fs.size) (hpos : 0 < fs.size) (hint : ∀ (j : Nat) (f : Field), fs[j]? = some f → P.underlying f.type = some (.int .i64))
    (h : DataW.trod enc P w 0 (fun _ => true) true fuel t [.slice A len cap] = some x) (hlt : ∀ p ∈ x.2, p.block < w.heap.size) : ∃ ops, OpsAt w w.heap.size fs.size (.slice A len cap) ops := by
  rcases open_slice_fields ht he hone hC h with ⟨hcs, -⟩ | ⟨a, len', cap', m, D, Pl, hcs, -, hl, hm, hmm, hx, hi⟩
  · simp only [List.cons.injEq, Value.slice.injEq, and_true] at hcs
    obtain ⟨rfl, rfl, rfl⟩ := hcs
    exact ⟨[], none, 0, 0, rfl, rfl, Nat.zero_le _, by simp, fun h0 => absurd h0 (by omega)⟩
  · simp only [List.cons.injEq, Value.slice.injEq, and_true] at hcs
    obtain ⟨rfl, rfl, rfl⟩ := hcs
    simp only [if_true] at hmm
    subst hmm
    have one : ∀ i, i < len → ∀ j, j < fs.size → ∃ z : Int, (-9223372036854775808 ≤ z ∧ z ≤ 9223372036854775807) ∧ w.cell? (a.add (i * fs.size + j)) = some (.int .i64 z) := by
      intro i hil j hj
      obtain ⟨ys, n, -, -, -, hf⟩ := hi i (by omega)
      obtain ⟨v, y, hcell, -, hy⟩ := hf j fs[j] (Array.getElem?_eq_getElem hj)
      obtain ⟨z, hz, -, wz⟩ := DataW.trod_int (hint j fs[j] (Array.getElem?_eq_getElem hj)) hy
      simp at hz
      subst hz
      exact ⟨z, bounds_i64 wz, hcell⟩
    obtain ⟨ops, hol, hops⟩ := choose_list len (fun i (l : List Int) => l.length = fs.size ∧ ∀ j z, l[j]? = some z → (-9223372036854775808 ≤ z ∧ z ≤ 9223372036854775807) ∧ w.cell? (a.add (i * fs.size + j)) = some (.int .i64 z)) fun i hil => by
      obtain ⟨l, h1, h2⟩ := choose_list fs.size (fun j (z : Int) => (-9223372036854775808 ≤ z ∧ z ≤ 9223372036854775807) ∧ w.cell? (a.add (i * fs.size + j)) = some (.int .i64 z)) (one i hil)
      exact ⟨l, h1, h2⟩
    refine ⟨ops, some a, len, _, rfl, hol, by omega, ?_, fun h0 => ?_⟩
    · intro l hl'
      obtain ⟨i, hi', rfl⟩ := List.getElem_of_mem hl'
      obtain ⟨g1, g2⟩ := hops i _ (List.getElem?_eq_getElem hi')
      refine ⟨g1, fun x hx' => ?_⟩
      obtain ⟨j, hj', rfl⟩ := List.getElem_of_mem hx'
      exact (g2 j _ (List.getElem?_eq_getElem hj')).1
    · have hspot : a.spot = none ∧ a.block < w.heap.size := by
        obtain ⟨z, -, hc⟩ := one 0 h0 0 hpos
        simp only [Nat.zero_mul, Nat.zero_add] at hc
        have hadd : a.add 0 = a := by simp [Addr.add]
        rw [hadd] at hc
        refine ⟨?_, ?_⟩
        · unfold World.cell? at hc
          split at hc
          · split at hc
            · simp at hc
            · rename_i hs; simpa using hs
          · simp at hc
        · exact block_lt_of_cell hc
      obtain ⟨hs, hb⟩ := hspot
      obtain ⟨b, off, sp⟩ := a
      simp only at hs hb
      subst hs
      refine ⟨b, off, rfl, hb, fun i j hi' hj' => ?_⟩
      obtain ⟨g1, g2⟩ := hops i _ (List.getElem?_eq_getElem (by omega : i < ops.length))
      have := (g2 j _ (List.getElem?_eq_getElem (by omega))).2
      have hadd : (⟨b, off, none⟩ : Addr).add (i * fs.size + j) = ⟨b, off + i * fs.size + j, none⟩ := by
        unfold Addr.add
        split
        · rename_i q; rw [Nat.add_assoc, q]; rfl
        · rw [Nat.add_assoc]
      rw [hadd] at this
      rw [this]
      have e1 : ops.getD i [] = ops[i]'(by omega) := by simp [List.getD_eq_getElem?_getD, hol, hi']
      rw [e1]
      have hjl : j < (ops[i]'(by omega)).length := by omega
      simp [List.getD_eq_getElem?_getD, hjl]

/-- An array of three ints, by value. -/
theorem open_arr3 {H : Type} {enc : TypeId × Value → H} {P : Program} {w : World} {base : Nat} {spare : Nat → Bool} {held : Bool} {r : Reach} {b0 : Nat} {t e : TypeId} {v : Value} {d : DataW H} {p : List MemPlace} (ht : P.underlying t = some (.array 3 e)) (he : P.underlying e = some (.int .i64)) (hC : P.cellsOf t = 3) (h1 : P.cellsOf e = 1)
    (hv : Value.okWide P w r b0 t v) (h : DataW.Trod enc P w base spare held t v d p) :
    ∃ a0 a1 a2 : Int, v = .agg #[.int .i64 a0, .int .i64 a1, .int .i64 a2] ∧ (Lit.int .i64 a0).wf = true ∧ (Lit.int .i64 a1).wf = true ∧ (Lit.int .i64 a2).wf = true := by
  have hs : ∃ cs : Array Value, v = .agg cs ∧ cs.size = P.cellsOf t := by
    simp only [Value.okWide, ht] at hv
    obtain ⟨cs, g1, g2, _⟩ := hv
    exact ⟨cs, g1, g2⟩
  obtain ⟨cs, rfl, hsz⟩ := hs
  obtain ⟨l⟩ := cs
  match l, hsz.trans hC with
  | [c0, c1, c2], _ =>
    obtain ⟨fuel, hf⟩ := h
    obtain ⟨xs, n, -, -, -, hlen, hg⟩ := DataW.trod_array ht hf
    match xs, hlen with
    | [y0, y1, y2], _ =>
      have g0 := hg 0 (by omega)
      have g1 := hg 1 (by omega)
      have g2 := hg 2 (by omega)
      simp [Value.cells, h1] at g0 g1 g2
      obtain ⟨z0, q0, -, w0⟩ := DataW.trod_int he g0
      obtain ⟨z1, q1, -, w1⟩ := DataW.trod_int he g1
      obtain ⟨z2, q2, -, w2⟩ := DataW.trod_int he g2
      simp at q0 q1 q2
      subst q0 q1 q2
      exact ⟨z0, z1, z2, rfl, w0, w1, w2⟩

end Go.Proofs.Ytgkjiemjghmgmaa.Ops
