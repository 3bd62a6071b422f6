/- Texts of this proof, merged: RowK. -/
import Derived.Test.YtaaffebnajjfhaaGreatDoorM47
import Derived.Test.YtaaffebnajjfhaaGreatDoorRows
import Derived.WalkKit
import Derived.ProofKit
import Derived.OpenShut
import Derived.ChangeOld
import Derived.Below
import Derived.Lib.SmallJoins
import Derived.Deep.Slices
import Derived.Deep.Fields
import Derived.ChangeSame
import Derived.LaidLaws
import Derived.LaidHandle
import Derived.Stop.Joined
namespace Go.Proofs.YtaaffebnajjfhaaGreatDoor.T
set_option linter.unusedVariables false
set_option linter.unusedSimpArgs false
open Go.ChangeShapes Go.WideShapes Go.RowKit Go.Deep
theorem choose_list {α : Type} (n : Nat) (p : Nat → α → Prop) (h : ∀ i, i < n → ∃ x, p i x) : ∃ l : List α, l.length = n ∧ ∀ i x, l[i]? = some x → p i x := by
  induction n with
  | zero => exact ⟨[], rfl, fun i x hx => by simp at hx⟩
  | succ n ih =>
    obtain ⟨l, hl, hp⟩ := ih fun i hi => h i (by omega)
    obtain ⟨x, hx⟩ := h n (by omega)
    refine ⟨l ++ [x], by simp [hl], fun i y hy => ?_⟩
    by_cases hi : i < n
    · rw [List.getElem?_append_left (by omega)] at hy
      exact hp i y hy
    · rw [List.getElem?_append_right (by omega)] at hy
      have hi0 : i - l.length = 0 := by
        have := (List.getElem?_eq_some_iff.1 hy).1
        simp at this
        omega
      rw [hi0] at hy
      simp at hy
      subst hy
      have : i = n := by omega
      subst this
      exact hx
theorem spot_none {w : World} {a : Addr} {v : Value} (hc : w.cell? a = some v) : a = ⟨a.block, a.off, none⟩ ∧ a.block < w.heap.size := by
  have hb := World.block_lt_of_cell? w a (by rw [hc])
  refine ⟨?_, hb⟩
  have hs : a.spot = none := by
    unfold World.cell? at hc
    split at hc
    · split at hc
      · simp at hc
      · rename_i hs; simpa using hs
    · simp at hc
  obtain ⟨b, o, s⟩ := a
  simp only at hs
  subst hs
  rfl
section
variable {H : Type} {enc : TypeId × Value → H} {P : Program} {w : World} {base : Nat} {spare : Nat → Bool} {held : Bool}
theorem open_slice_fields {t e : TypeId} {fs : Array Field} {fuel : Nat} {cs : List Value} {x : DataW H × List MemPlace} (ht : P.underlying t = some (.slice e)) (he : P.underlying e = some (.struct fs))
    (hone : oneCellFields P fs = true) (hC : P.cellsOf e = fs.size) (h : DataW.trod enc P w base spare held fuel t cs = some x) :
    (cs = [.slice none 0 0] ∧ x = (.nil, [])) ∨
    ∃ (a : Addr) (len cap m : Nat) (D : Nat → DataW H) (Pl : Nat → List MemPlace), cs = [.slice (some a) len cap] ∧ base ≤ a.block ∧ len ≤ cap ∧ cap ≤ maxLen ∧ m = (if spare a.block then cap else len) ∧
      x = (.slice ((List.range len).map D) ((List.range (m - len)).map fun j => D (len + j)), MemPlace.row a (m * fs.size) ++ (List.range m).flatMap Pl) ∧
      ∀ i, i < m → ∃ (ys : List (DataW H × List MemPlace)) (n : Nat), D i = .agg (ys.map (·.1)) ∧ Pl i = ys.flatMap (·.2) ∧ ys.length = fs.size ∧
        ∀ (j : Nat) (f : Field), fs[j]? = some f → ∃ (v : Value) (y : DataW H × List MemPlace), w.cell? (a.add (i * fs.size + j)) = some v ∧ ys[j]? = some y ∧ DataW.trod enc P w base spare held n f.type [v] = some y := by
  rcases open_slice ht h with h0 | ⟨a, len, cap, m, n, D, Pl, hcs, hb, hl, hm, hmm, hx, hi⟩
  · exact .inl h0
  · refine .inr ⟨a, len, cap, m, D, Pl, hcs, hb, hl, hm, hmm, by rw [hC] at hx; exact hx, fun i him => ?_⟩
    obtain ⟨cs', hc, ht'⟩ := hi i him
    rw [hC] at hc
    obtain ⟨ys, n', hn', hy, hlen, hyl, hf⟩ := DataW.trod_struct he ht'
    obtain ⟨_, hcl, hat⟩ := World.cells?_some hc
    simp only [Prod.mk.injEq] at hy
    refine ⟨ys, n', hy.1, hy.2, hyl, fun j f hj => ?_⟩
    obtain ⟨ho, hk⟩ := hone_of hone j f hj
    have hjl : j < fs.size := (Array.getElem?_eq_some_iff.1 hj).1
    have hcell := hat j hjl
    have hv : cs'[j]? = some (cs'[j]'(by omega)) := List.getElem?_eq_getElem (by omega)
    have h1 := hf j f hj
    rw [ho, hk] at h1
    have hone' : (cs'.drop j).take 1 = [cs'[j]'(by omega)] := by
      rw [List.drop_eq_getElem_cons (by omega)]
      rfl
    rw [hone'] at h1
    have hys : ys[j]? = some (ys[j]'(by omega)) := List.getElem?_eq_getElem (by omega)
    refine ⟨_, _, ?_, hys, h1.trans hys⟩
    rw [← Go.Deep.add_add, hcell, hv]
end
section
variable {H : Type} {enc : TypeId × Value → H} {w : World} {held : Bool} {fuel : Nat}
theorem cellsOf3 : Tryz.prog.cellsOf 3 = 1 := by kernel_rfl
theorem cellsOf33 : Tryz.prog.cellsOf 33 = 7 := by kernel_rfl
theorem under24 : Tryz.prog.underlying 24 = some (.slice 33) := by kernel_rfl
theorem readI_of {v : Value} {x : DataW H × List MemPlace} (h : DataW.trod enc Tryz.prog w 0 (fun _ => true) held fuel 31 [v] = some x) : ∃ xs, ReadI w v xs ∧ ∀ k, v.ownBlock = some k → 0 < xs.length → k < w.heap.size := by
  rcases open_slice under31 h with ⟨hcs, -⟩ | ⟨a, len, cap, m, n, D, Pl, hcs, -, hl, hm, hmm, hx, hi⟩
  · simp only [List.cons.injEq, and_true] at hcs
    subst hcs
    exact ⟨[], .inl ⟨rfl, none, 0, rfl⟩, fun k q => by simp [Value.ownBlock] at q⟩
  · simp only [List.cons.injEq, and_true] at hcs
    subst hcs
    simp only [if_true] at hmm
    subst hmm
    have one : ∀ i, i < len → ∃ z : Int, w.cell? (a.add i) = some (.int .i64 z) := by
      intro i hil
      obtain ⟨cs', hc, ht'⟩ := hi i (by omega)
      rw [cellsOf3, Nat.mul_one] at hc
      obtain ⟨_, hcl, hat⟩ := World.cells?_some hc
      obtain ⟨z, hz, -, -⟩ := DataW.trod_int under3 ht'
      subst hz
      have := hat 0 (by omega)
      refine ⟨z, ?_⟩
      have e0 : (a.add i).add 0 = a.add i := by simp [Addr.add]
      rw [e0] at this
      simpa using this
    obtain ⟨xs, hxl, hxs⟩ := choose_list len (fun i (z : Int) => w.cell? (a.add i) = some (.int .i64 z)) one
    refine ⟨xs, ?_, fun k q h0 => ?_⟩
    · by_cases h0 : 0 < len
      · obtain ⟨z, hz⟩ := one 0 h0
        have e0 : a.add 0 = a := by simp [Addr.add]
        rw [e0] at hz
        obtain ⟨ha, hb⟩ := spot_none hz
        refine .inr ⟨a.block, a.off, _, by rw [hxl, ← ha], hb, by omega, fun j hj => ?_⟩
        have := hxs j _ (List.getElem?_eq_getElem (by omega))
        rw [ha, add_lit] at this
        rw [this, List.getD_eq_getElem?_getD, List.getElem?_eq_getElem (by omega)]
        rfl
      · have hl0 : len = 0 := by omega
        subst hl0
        exact .inl ⟨List.eq_nil_of_length_eq_zero hxl, _, _, rfl⟩
    · obtain ⟨z, hz⟩ := one 0 (by omega)
      have e0 : a.add 0 = a := by simp [Addr.add]
      rw [e0] at hz
      obtain ⟨ha, hb⟩ := spot_none hz
      rw [ha] at q
      simp [Value.ownBlock] at q
      omega
theorem fields33 : (match Tryz.prog.underlying 33 with | some (.struct fs) => some (oneCellFields Tryz.prog fs, fs.size, fs.toList.map fun f => f.type) | _ => none) = some (true, 7, [3, 3, 3, 3, 31, 3, 3]) := by kernel_rfl
theorem struct33 : ∃ fs, Tryz.prog.underlying 33 = some (.struct fs) ∧ oneCellFields Tryz.prog fs = true ∧ fs.size = 7 ∧ (fs.toList.map fun f => f.type) = [3, 3, 3, 3, 31, 3, 3] := by
  have h := fields33
  generalize Tryz.prog.underlying 33 = d at h
  match d, h with
  | some (.struct fs), h =>
    simp only [Option.some.injEq, Prod.mk.injEq] at h
    exact ⟨fs, rfl, h.1, h.2.1, h.2.2⟩
theorem actsAt_of {A : Option Addr} {len cap : Nat} {x : DataW H × List MemPlace} (h : DataW.trod enc Tryz.prog w 0 (fun _ => true) held fuel 24 [.slice A len cap] = some x) : ∃ l, ActsAt w (.slice A len cap) l := by
  obtain ⟨fs, hu, hone, hsz, hty⟩ := struct33
  rcases open_slice_fields under24 hu hone (by rw [hsz]; exact cellsOf33) h with ⟨hcs, -⟩ | ⟨a, len', cap', m, D, Pl, hcs, -, hl, hm, hmm, hx, hi⟩
  · simp only [List.cons.injEq, Value.slice.injEq, and_true] at hcs
    obtain ⟨rfl, rfl, rfl⟩ := hcs
    exact ⟨[], .inl ⟨rfl, none, 0, rfl⟩, fun i hi => by simp at hi⟩
  · simp only [List.cons.injEq, Value.slice.injEq, and_true] at hcs
    obtain ⟨rfl, rfl, rfl⟩ := hcs
    simp only [if_true] at hmm
    subst hmm
    have one : ∀ i, i < len → ∃ e : Evl, (∀ r, r < 7 → w.cell? (a.add (i * 7 + r)) = (evCells e.ev e.lv e.o e.v)[r]?) ∧ ReadI w e.lv e.ev.load ∧ ∀ k, e.lv.ownBlock = some k → 0 < e.ev.load.length → k < w.heap.size := by
      intro i hil
      obtain ⟨ys, n, -, -, -, hf⟩ := hi i (by omega)
      have hfj : ∀ j t, ([3, 3, 3, 3, 31, 3, 3] : List TypeId)[j]? = some t → ∃ v y, w.cell? (a.add (i * 7 + j)) = some v ∧ DataW.trod enc Tryz.prog w 0 (fun _ => true) held n t [v] = some y := by
        intro j t hj
        rw [← hty, List.getElem?_map] at hj
        obtain ⟨f, hfj, he⟩ := Option.map_eq_some_iff.1 hj
        obtain ⟨v, y, h1, -, h2⟩ := hf j f (by simpa using hfj)
        rw [hsz] at h1
        rw [he] at h2
        exact ⟨v, y, h1, h2⟩
      have int : ∀ j, ([3, 3, 3, 3, 31, 3, 3] : List TypeId)[j]? = some 3 → ∃ z : Int, w.cell? (a.add (i * 7 + j)) = some (.int .i64 z) := by
        intro j hj
        obtain ⟨v, y, h1, h2⟩ := hfj j 3 hj
        obtain ⟨z, hz, -, -⟩ := DataW.trod_int under3 h2
        simp at hz
        subst hz
        exact ⟨z, h1⟩
      obtain ⟨z0, c0⟩ := int 0 rfl
      obtain ⟨z1, c1⟩ := int 1 rfl
      obtain ⟨z2, c2⟩ := int 2 rfl
      obtain ⟨z3, c3⟩ := int 3 rfl
      obtain ⟨lv, y, c4, hy⟩ := hfj 4 31 rfl
      obtain ⟨z5, c5⟩ := int 5 rfl
      obtain ⟨z6, c6⟩ := int 6 rfl
      obtain ⟨xs, hr, ho⟩ := readI_of hy
      refine ⟨⟨⟨z0, z1, z2, z3, xs⟩, lv, z5, z6⟩, fun r hr => ?_, hr, ho⟩
      match r, hr with
      | 0, _ => exact c0
      | 1, _ => exact c1
      | 2, _ => exact c2
      | 3, _ => exact c3
      | 4, _ => exact c4
      | 5, _ => exact c5
      | 6, _ => exact c6
    obtain ⟨l, hll, hlp⟩ := choose_list len (fun i (e : Evl) => (∀ r, r < 7 → w.cell? (a.add (i * 7 + r)) = (evCells e.ev e.lv e.o e.v)[r]?) ∧ ReadI w e.lv e.ev.load ∧ ∀ k, e.lv.ownBlock = some k → 0 < e.ev.load.length → k < w.heap.size) one
    have hgd : ∀ i, i < l.length → l[i]? = some (l.getD i Evl.none_) := fun i hi => by
      rw [List.getD_eq_getElem?_getD, List.getElem?_eq_getElem hi]; rfl
    refine ⟨l, ?_, fun i hi => (hlp i _ (hgd i hi)).2⟩
    by_cases h0 : 0 < len
    · have hz := (hlp 0 _ (hgd 0 (by omega))).1 0 (by omega)
      have e0 : a.add (0 * 7 + 0) = a := by simp [Addr.add]
      rw [e0] at hz
      obtain ⟨ha, hb⟩ := spot_none (v := .int .i64 (l.getD 0 Evl.none_).ev.kind) hz
      refine .inr ⟨a.block, a.off, _, by rw [hll, ← ha], hb, by omega, fun i hi r hr => ?_⟩
      have := (hlp i _ (hgd i hi)).1 r hr
      rw [ha, add_lit] at this
      rw [Nat.add_assoc]
      exact this
    · have hl0 : len = 0 := by omega
      subst hl0
      exact .inl ⟨List.eq_nil_of_length_eq_zero hll, _, _, rfl⟩
end
theorem arr_of {H : Type} {enc : TypeId × Value → H} {P : Program} {w : World} {base : Nat} {sp : Nat → Bool} {held : Bool} {fuel n : Nat} {t e : TypeId} {k : IntKind} {cs : List Value} {ds : List Int} {p : List MemPlace} (ht : P.underlying t = some (.array n e)) (he : P.underlying e = some (.int k)) (hC : P.cellsOf e = 1) (hCt : P.cellsOf t = n)
    (hl : ds.length = n) (h : DataW.trod enc P w base sp held fuel t cs = some (.agg (ds.map fun x => .lit (.int k x)), p)) : cs = ds.map (Value.int k) := by
  obtain ⟨xs, m, -, hx, hcl, hxl, hg⟩ := DataW.trod_array ht h
  simp only [Prod.mk.injEq, DataW.agg.injEq] at hx
  apply List.ext_getElem?
  intro i
  by_cases hi : i < n
  · have h1 := hg i hi
    rw [hC, Nat.mul_one] at h1
    have h2 : (cs.drop i).take 1 = [cs[i]'(by omega)] := by
      rw [List.drop_eq_getElem_cons (by omega)]
      rfl
    rw [h2] at h1
    have hxi : xs[i]? = some (xs[i]'(by omega)) := List.getElem?_eq_getElem (by omega)
    rw [hxi] at h1
    obtain ⟨z, hz, hz2, -⟩ := DataW.trod_int he h1
    simp at hz
    have h3 := congrArg (fun q => q[i]?) hx.1
    simp only [List.getElem?_map, hxi, Option.map_some, List.getElem?_eq_getElem (show i < ds.length by omega), hz2, Option.some.injEq, DataW.lit.injEq, Lit.int.injEq, true_and] at h3
    rw [List.getElem?_eq_getElem (by omega), hz, List.getElem?_map, List.getElem?_eq_getElem (by omega), Option.map_some, h3]
  · rw [List.getElem?_eq_none (by omega), List.getElem?_eq_none (by rw [List.length_map]; omega)]
theorem gn0 : Tryz.prog.globalNamed "switchyard/plot.ahead" = some 0 := by kernel_rfl
theorem gn1 : Tryz.prog.globalNamed "math/bits.deBruijn64tab" = some 1 := by kernel_rfl
theorem gt0 : (Tryz.prog.globals[0]?).map (·.type) = some 157 := by kernel_rfl
theorem gt1 : (Tryz.prog.globals[1]?).map (·.type) = some 200 := by kernel_rfl
theorem under157 : Tryz.prog.underlying 157 = some (.array 9 3) := by kernel_rfl
theorem under200 : Tryz.prog.underlying 200 = some (.array 64 5) := by kernel_rfl
theorem under5 : Tryz.prog.underlying 5 = some (.int .u8) := by kernel_rfl
theorem cellsOf5 : Tryz.prog.cellsOf 5 = 1 := by kernel_rfl
theorem cellsOf157 : Tryz.prog.cellsOf 157 = 9 := by kernel_rfl
theorem cellsOf200 : Tryz.prog.cellsOf 200 = 64 := by kernel_rfl
def aheads : List Int := [0, 0, 0, 0, 0, 0, 1, 2, 3]
theorem laid_tab : (Rows.laid_math_bits_deBruijn64tab : DataW Unit) = .agg (deb.map fun x => .lit (.int .u8 x)) := by kernel_rfl
theorem laid_ahead : (Rows.laid_switchyard_plot_ahead : DataW Unit) = .agg (aheads.map fun x => .lit (.int .i64 x)) := by kernel_rfl
theorem glob_of {W : World} (h : laidMetH Tryz.prog [("math/bits.deBruijn64tab", Rows.laid_math_bits_deBruijn64tab), ("switchyard/plot.ahead", Rows.laid_switchyard_plot_ahead)] W) : Glob W := by
  have h : laidMet Tryz.prog [("math/bits.deBruijn64tab", Rows.laid_math_bits_deBruijn64tab), ("switchyard/plot.ahead", Rows.laid_switchyard_plot_ahead)] W := h
  obtain ⟨ps, ⟨g, t, cs, fuel, p, q, hg, ht, hvar, hd, hr, _⟩, _⟩ := h
  obtain ⟨g2, t2, cs2, fuel2, p2, q2, hg2, ht2, hvar2, hd2, _, _⟩ := hr
  obtain rfl := Option.some.inj (gn1.symm.trans hg)
  obtain rfl := Option.some.inj (gt1.symm.trans ht)
  obtain rfl := Option.some.inj (gn0.symm.trans hg2)
  obtain rfl := Option.some.inj (gt0.symm.trans ht2)
  rw [laid_tab] at hd
  rw [laid_ahead] at hd2
  have e1 := arr_of under200 under5 cellsOf5 cellsOf200 (by decide) hd
  have e2 := arr_of under157 under3 cellsOf3 cellsOf157 (by decide) hd2
  have c2 : ∀ j, W.cell? ⟨0, j, none⟩ = (aheads.map (Value.int .i64))[j]? := fun j => by
    have := World.var?_cell hg2 hvar2 j
    rw [this, ← e2]; simp
  refine ⟨⟨c2 5, c2 6, c2 7, c2 8⟩, fun j hj => ?_⟩
  have := World.var?_cell hg hvar j
  rw [this]
  have e3 : cs[j]? = cs.toList[j]? := by simp
  rw [e3, e1, List.getElem?_map, List.getD_eq_getElem?_getD]
  have hdl : deb.length = 64 := by decide
  rw [List.getElem?_eq_getElem (by omega)]
  rfl
noncomputable def laidWorld (os : Os) : World :=
  let w0 := World.holding Tryz.prog os ⟨#[], #[], []⟩
  { w0 with heap := (w0.heap.modify 0 fun
      | .cells _ t fr => .cells (aheads.map (Value.int .i64)).toArray t fr
      | o => o).modify 1 fun
      | .cells _ t fr => .cells (deb.map (Value.int .u8)).toArray t fr
      | o => o }
theorem laidWorld_met (os : Os) (args : Array Value) : laidMetH Tryz.prog [("math/bits.deBruijn64tab", Rows.laid_math_bits_deBruijn64tab), ("switchyard/plot.ahead", Rows.laid_switchyard_plot_ahead)] ((laidWorld os).forCall (fun _ _ => 0) ⟨#[], args, []⟩).memory :=
  laidMetH_of_parts (laidMet_of_run' 8 (by kernel_rfl) (by kernel_rfl)) (by kernel_rfl)
end Go.Proofs.YtaaffebnajjfhaaGreatDoor.T
