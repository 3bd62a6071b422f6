/- SiteBack: for every plan, every address and every spot the law returns true, and all three read behind the call as they read before. No conditions. -/
import Derived.Test.YtlkllpemhneaaaaRows
import Derived.Test.YtlkllpemhneaaaaPureSiteBack
import Derived.WalkKit
import Derived.ProofKit
import Derived.OpenShut
import Derived.ChangeOld
import Derived.Below
import Derived.Lib.SmallJoins
namespace Go.Proofs.Ytlkllpemhneaaaa.siteBack
open Go.ChangeShapes Go.WideShapes Go.ChangeAt Go.RowKit Go.Joins
set_option linter.unusedVariables false
set_option linter.unusedSimpArgs false

theorem own : ownKnob Try.prog.godebug = none := by kernel_rfl
theorem laidOut : laidOutB Try.prog = true := by kernel_rfl
theorem cells23 : Try.prog.cellsOf 23 = 3 := by kernel_rfl
theorem cells25 : Try.prog.cellsOf 25 = 3 := by kernel_rfl

set_option maxRecDepth 100000 in
theorem lifted (os : Os) (started : os.Started) (H : Type) (enc : TypeId × Value → H) :
    ReturnsInHanded {} Try.checked os 4 .any (Rows.siteBackSpec.pre6 enc Try.prog Try.f4 Rows.siteBackRow.domain false) (Rows.siteBackSpec.post enc Try.prog Try.f4 false true false false) := by
  refine returnsInHanded_of_change (C := Try.checked) own started (by kernel_rfl) Try.func4
    (ChangeSpec.witness6 (enc := enc) (C := Try.checked) false ⟨#[], #[.agg #[.int .i64 0, .int .i64 0, .int .i64 0], .int .i64 0, .agg #[.int .i64 0, .int .i64 0, .int .i64 0]], []⟩ 8 (by kernel_rfl) (by kernel_rfl) (by kernel_rfl) (by kernel_rfl)) ?_
  intro W base args ds gs before hval0 hW hcnd _
  have hval : ∀ (j : Nat) t v, Try.f4.params[j]? = some t → args[j]? = some v → Value.okWide Try.prog W .any base t v := hval0
  have hW' := hW
  obtain ⟨p, q, hA0, hV, rfl, hfz, hnd⟩ := hW
  have hA : DataW.TrodAll enc Try.prog W 0 (fun _ => true) true Try.f4.params.toList args.toList ds p := hA0
  rw [Try.params4] at hA hval
  obtain ⟨v0, vm, v1, d0, dm, d1, p0, pm, p1, rfl, rfl, rfl, h0, hm, h1⟩ := trodAll_three hA
  obtain ⟨am, rfl, rfl, rfl, wam⟩ := open_int Try.underlying3 (hval 1 3 vm rfl rfl) hm
  obtain ⟨rfl, rfl⟩ := trodVars_none hV
  have k0 := h0
  have lt0 : ∀ x ∈ p0, x.block < W.heap.size := by obtain ⟨m, hm⟩ := k0; exact DataW.trod_lt m _ _ _ hm
  have k1 := h1
  have lt1 : ∀ x ∈ p1, x.block < W.heap.size := by obtain ⟨m, hm⟩ := k1; exact DataW.trod_lt m _ _ _ hm
  obtain ⟨x0, x1, x2, y0, y1, y2, m0, rfl, -, -, hy0, hy1, hy2⟩ := open_agg3 Try.underlying23 (by kernel_rfl) cells23 (hval 0 23 v0 rfl rfl) h0
  obtain ⟨a0, e0, -, wa0⟩ := DataW.trod_int Try.underlying3 hy0
  obtain ⟨a1, e1, -, wa1⟩ := DataW.trod_int Try.underlying3 hy1
  obtain ⟨a2, e2, -, wa2⟩ := DataW.trod_int Try.underlying3 hy2
  simp at e0 e1 e2
  subst e0 e1 e2
  obtain ⟨z0, z1, z2, u0, u1, u2, m1, rfl, -, -, hu0, hu1, hu2⟩ := open_agg3 Try.underlying25 (by kernel_rfl) cells25 (hval 2 25 v1 rfl rfl) h1
  obtain ⟨b0, e0, -, wb0⟩ := DataW.trod_int Try.underlying3 hu0
  obtain ⟨b1, e1, -, wb1⟩ := DataW.trod_int Try.underlying3 hu1
  obtain ⟨b2, e2, -, wb2⟩ := DataW.trod_int Try.underlying3 hu2
  simp at e0 e1 e2
  subst e0 e1 e2
  clear hA0 hval0
  refine (PSiteBack.switchyardlaw08_SiteBack.calls 1 a0 a1 a2 am b0 b1 b2 true W (PureBack.law a0 a1 a2 am b0 b1 b2 wa0 wa1 wa2 wam)).mono fun e W' ⟨he, bel⟩ => ?_
  subst he
  exact ⟨_, rfl, _, _, _, [], _, [], hW', trodAll_mk1 (shut_bool Try.underlying4 _), trodAll_cons_mk (Below.trod laidOut (by kernel_rfl) (of_decide_eq_true (by kernel_rfl)) k0 bel lt0) (trodAll_cons_mk (shut_int Try.underlying3 wam) (trodAll_cons_mk (Below.trod laidOut (by kernel_rfl) (of_decide_eq_true (by kernel_rfl)) k1 bel lt1) trodAll_mk0)), rfl, bel.frame _, fun h => by cases h⟩

theorem proved : Rows.SiteBackSaid :=
  OpenClaim.holds_of_wide 4 Try.f4 rfl rfl rfl rfl rfl rfl rfl ⟨rfl, rfl, rfl, rfl, rfl⟩ rfl rfl rfl rfl rfl (by kernel_rfl) Try.func4 (by kernel_rfl)
    (of_decide_eq_true (by kernel_rfl)) (by unfold Func.isWrapper; first | (rw [if_pos (by decide +kernel)]; kernel_rfl) | (rw [if_neg (by decide +kernel)]; exact ⟨rfl, rfl⟩))
    (fun os started H enc _ => lifted os started H enc)
#print axioms proved
end Go.Proofs.Ytlkllpemhneaaaa.siteBack
namespace Go.Proofs.Ytlkllpemhneaaaa
/-- The row, under a short name, for the claim. -/
theorem siteBack_holds : Rows.SiteBackSaid := siteBack.proved
end Go.Proofs.Ytlkllpemhneaaaa
