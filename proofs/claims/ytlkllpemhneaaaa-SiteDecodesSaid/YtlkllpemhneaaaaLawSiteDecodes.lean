/- SiteDecodes: for every plan and every address the law returns true, and both read behind the call as they read before. No conditions. -/
import Derived.Test.YtlkllpemhneaaaaRows
import Derived.Test.YtlkllpemhneaaaaDecodesWalk
import Derived.WalkKit
import Derived.ProofKit
import Derived.OpenShut
import Derived.ChangeOld
import Derived.Below
import Derived.Lib.SmallJoins
namespace Go.Proofs.Ytlkllpemhneaaaa.siteDecodes
open Go.ChangeShapes Go.WideShapes Go.ChangeAt Go.RowKit Go.Joins
set_option linter.unusedVariables false
set_option linter.unusedSimpArgs false

theorem own : ownKnob Try.prog.godebug = none := by kernel_rfl
theorem laidOut : laidOutB Try.prog = true := by kernel_rfl
theorem cells23 : Try.prog.cellsOf 23 = 3 := by kernel_rfl

set_option maxRecDepth 100000 in
theorem lifted (os : Os) (started : os.Started) (H : Type) (enc : TypeId × Value → H) :
    ReturnsInHanded {} Try.checked os 5 .any (Rows.siteDecodesSpec.pre6 enc Try.prog Try.f5 Rows.siteDecodesRow.domain false) (Rows.siteDecodesSpec.post enc Try.prog Try.f5 false true false false) := by
  refine returnsInHanded_of_change (C := Try.checked) own started (by kernel_rfl) Try.func5
    (ChangeSpec.witness6 (enc := enc) (C := Try.checked) false ⟨#[], #[.agg #[.int .i64 0, .int .i64 0, .int .i64 0], .int .i64 0], []⟩ 8 (by kernel_rfl) (by kernel_rfl) (by kernel_rfl) (by kernel_rfl)) ?_
  intro W base args ds gs before hval0 hW hcnd _
  have hval : ∀ (j : Nat) t v, Try.f5.params[j]? = some t → args[j]? = some v → Value.okWide Try.prog W .any base t v := hval0
  have hW' := hW
  obtain ⟨p, q, hA0, hV, rfl, hfz, hnd⟩ := hW
  have hA : DataW.TrodAll enc Try.prog W 0 (fun _ => true) true Try.f5.params.toList args.toList ds p := hA0
  rw [Try.params5] at hA hval
  obtain ⟨v0, v1, d0, d1, p0, p1, rfl, rfl, rfl, h0, h1⟩ := trodAll_two hA
  obtain ⟨rfl, rfl⟩ := trodVars_none hV
  have k0 := h0
  have lt0 : ∀ x ∈ p0, x.block < W.heap.size := by obtain ⟨m, hm⟩ := k0; exact DataW.trod_lt m _ _ _ hm
  obtain ⟨am, rfl, rfl, rfl, wam⟩ := open_int Try.underlying3 (hval 1 3 v1 rfl rfl) h1
  obtain ⟨x0, x1, x2, y0, y1, y2, m0, rfl, -, -, hy0, hy1, hy2⟩ := open_agg3 Try.underlying23 (by kernel_rfl) cells23 (hval 0 23 v0 rfl rfl) h0
  obtain ⟨a0, e0, -, wa0⟩ := DataW.trod_int Try.underlying3 hy0
  obtain ⟨a1, e1, -, wa1⟩ := DataW.trod_int Try.underlying3 hy1
  obtain ⟨a2, e2, -, wa2⟩ := DataW.trod_int Try.underlying3 hy2
  simp at e0 e1 e2
  subst e0 e1 e2
  clear hA0 hval0
  have hb0 := PureDecodes.bounds a0 wa0
  have hb1 := PureDecodes.bounds a1 wa1
  have hb2 := PureDecodes.bounds a2 wa2
  obtain ⟨n, hn1, hn2⟩ := PureDecodes.count_eq a0 a1 a2 hb0 hb1 hb2
  rcases hd : PureDecodes.dec a0 a1 a2 am with ⟨k, i, r, b⟩
  refine (DecodesWalk.walk a0 a1 a2 am k i r n b _ W (by rw [PureDecodes.sdec_eq a0 a1 a2 am hb0 hb1 hb2 (PureDecodes.bounds am wam), hd]) (by rw [PureDecodes.rdec_eq a0 a1 a2 am 100 (by omega), hd])
    (PureDecodes.right_eq a0 a1 a2 hb0 hb1 hb2) (PureDecodes.rright_eq a0 a1 a2) hn1 hn2).mono fun e W' ⟨he, bel⟩ => ?_
  subst he
  exact ⟨_, rfl, _, _, _, [], _, [], hW', trodAll_mk1 (shut_bool Try.underlying4 _), trodAll_cons_mk (Below.trod laidOut (by kernel_rfl) (of_decide_eq_true (by kernel_rfl)) k0 bel lt0) (trodAll_cons_mk (shut_int Try.underlying3 wam) trodAll_mk0), rfl, bel.frame _, fun h => by cases h⟩

theorem proved : Rows.SiteDecodesSaid :=
  OpenClaim.holds_of_wide 5 Try.f5 rfl rfl rfl rfl rfl rfl rfl ⟨rfl, rfl, rfl, rfl, rfl⟩ rfl rfl rfl rfl rfl (by kernel_rfl) Try.func5 (by kernel_rfl)
    (of_decide_eq_true (by kernel_rfl)) (by unfold Func.isWrapper; first | (rw [if_pos (by decide +kernel)]; kernel_rfl) | (rw [if_neg (by decide +kernel)]; exact ⟨rfl, rfl⟩))
    (fun os started H enc _ => lifted os started H enc)
#print axioms proved
end Go.Proofs.Ytlkllpemhneaaaa.siteDecodes
namespace Go.Proofs.Ytlkllpemhneaaaa
/-- The row, under a short name, for the claim. -/
theorem siteDecodes_holds : Rows.SiteDecodesSaid := siteDecodes.proved
end Go.Proofs.Ytlkllpemhneaaaa
