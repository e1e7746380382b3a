/- The statement FnExactTilesFor, out of its pure law and the walk: what comes in is opened, the walk goes, what came in reads as before. -/
import Derived.Test.YtmbdjcmfclgieaaRows
import Derived.Test.YtmbdjcmfclgieaaPFnExactTilesForx5
import Derived.Test.YtmbdjcmfclgieaaFitFnExactTilesFor
import Derived.Test.YtmbdjcmfclgieaaPureFnExactTilesFor
import Derived.WalkKit
import Derived.ProofKit
import Derived.OpenShut
import Derived.ShutString
import Derived.ChangeOld
import Derived.Below
import Derived.SizedLaws
import Derived.Carry
namespace Go.Proofs.Ytmbdjcmfclgieaa.fnExactTilesFor
open Go.ChangeShapes Go.WideShapes Go.ChangeAt Go.RowKit Go.Proofs.YtmbdjcmfclgieaaW.PrintWords Go.Proofs.Ytmbdjcmfclgieaa.Open Go.Proofs.Ytmbdjcmfclgieaa.PFnExactTilesFor
set_option linter.unusedVariables false
theorem own : ownKnob Try.prog.godebug = none := by kernel_rfl
theorem laidOut : laidOutB Try.prog = true := by kernel_rfl
set_option maxRecDepth 100000 in
theorem lifted (os : Os) (started : os.Started) (H : Type) (enc : TypeId × Value → H) :
    ReturnsInHanded {} Try.checked os 7 .any (Rows.fnExactTilesForSpec.pre6 enc Try.prog Try.f7 Rows.fnExactTilesForRow.domain false) (Rows.fnExactTilesForSpec.post enc Try.prog Try.f7 false true false false) := by
  refine returnsInHanded_of_change_sized (C := Try.checked) own started (by kernel_rfl) Try.func7
    (ChangeSpec.witness6 (enc := enc) (C := Try.checked) false ⟨#[], #[.agg #[.int .i64 0, .int .i64 0, .int .i64 0, .int .i64 0]], []⟩ 8 (by kernel_rfl) (by kernel_rfl) (by kernel_rfl) (by kernel_rfl)) ?_
  intro W base args ds gs before hval0 hW hcnd hsz0 _
  have hval : ∀ (j : Nat) t v, Try.f7.params[j]? = some t → args[j]? = some v → Value.okWide Try.prog W .any base t v := hval0
  have hW' := hW
  obtain ⟨p, q, hA0, hV, rfl, hfz, hnd⟩ := hW
  have hA : DataW.TrodAll enc Try.prog W 0 (fun _ => true) true Try.f7.params.toList args.toList ds p := hA0
  rw [Try.params7] at hA hval
  obtain ⟨v0, vs0, d0, ds0, p0, q0, hargs, rfl, rfl, h0, r0⟩ := trodAll_cons hA
  obtain ⟨rfl, rfl, rfl⟩ := trodAll_nil r0
  obtain rfl : args = #[v0] := by cases args; simp_all
  obtain ⟨rfl, rfl⟩ := trodVars_none hV
  have kk0 := h0
  have lt0 : ∀ x ∈ p0, x.block < W.heap.size := by obtain ⟨m, hm⟩ := kk0; exact DataW.trod_lt m _ _ _ hm
  obtain ⟨cs0, hv0, _⟩ := okWide_struct Try.underlying27 (hval 0 27 v0 rfl rfl)
  obtain ⟨fu0, hf0⟩ := h0
  have fit_0 : Fit Try.prog 27 (Kd.pair (Kd.pair (Kd.int .i64) (Kd.int .i64)) (Kd.pair (Kd.int .i64) (Kd.int .i64))) (fun p => (fun p => (fun n => (Lit.int .i64 n).wf = true) p.1 ∧ (fun n => (Lit.int .i64 n).wf = true) p.2) p.1 ∧ (fun p => (fun n => (Lit.int .i64 n).wf = true) p.1 ∧ (fun n => (Lit.int .i64 n).wf = true) p.2) p.2) := (Fit.structP Try.underlying27 (by kernel_rfl) (FitF.cons rfl (by kernel_rfl) (Fit.structP Try.underlying25 (by kernel_rfl) (FitF.cons rfl (by kernel_rfl) (Fit.int Try.underlying3) (FitF.one rfl (by kernel_rfl) (Fit.int Try.underlying3)))) (FitF.cons rfl (by kernel_rfl) (Fit.int Try.underlying3) (FitF.one rfl (by kernel_rfl) (Fit.int Try.underlying3)))))
  obtain ⟨⟨⟨a0_0, a0_1⟩, a0_2, a0_3⟩, hK0, ok_0⟩ := fit_0.go enc W 0 _ true _ _ _ hf0
  obtain ⟨_, _, hcs, ⟨_, _, rfl, rfl, rfl⟩, ⟨_, _, rfl, rfl, rfl⟩⟩ := hK0
  have ha0 : v0 = .agg #[.int .i64 a0_0, .int .i64 a0_1, .int .i64 a0_2, .int .i64 a0_3] := agg_of hv0 hcs
  clear hcs hv0
  subst ha0
  clear hA0 hval0 hsz0 hval
  obtain ⟨k, h⟩ := Pure.FnExactTilesFor a0_0 a0_1 a0_2 a0_3 ok_0
  refine (laws_FnExactTilesFor.calls k a0_0 a0_1 a0_2 a0_3 true W h).mono fun e W' ⟨he, bel0⟩ => ?_
  have bel : Below W.heap.size W W' := by first | exact bel0 | exact bel0.below
  subst he
  exact ⟨_, rfl, _, _, _, [], _, [], hW', trodAll_mk1 (shut_bool Try.underlying4 _), (trodAll_cons_mk (Below.trod laidOut (by kernel_rfl) (of_decide_eq_true (by kernel_rfl)) kk0 bel lt0) trodAll_mk0), rfl, bel.frame _, fun h => by cases h⟩
theorem over : Rows.fnExactTilesForRow.holds Try.pinned (OpenSpec.ofChange Rows.fnExactTilesForSpec) :=
  OpenClaim.holds_of_wide 7 Try.f7 rfl rfl rfl rfl rfl rfl rfl ⟨rfl, rfl, rfl, rfl, rfl⟩ rfl rfl rfl rfl rfl (by kernel_rfl) Try.func7 (by kernel_rfl)
    (of_decide_eq_true (by kernel_rfl)) (by unfold Func.isWrapper; first | (rw [if_pos (by decide +kernel)]; kernel_rfl) | (rw [if_neg (by decide +kernel)]; exact ⟨rfl, rfl⟩))
    (fun os started H enc _ => lifted os started H enc)
theorem proved : Rows.FnExactTilesForSaid := over
#print axioms proved
end Go.Proofs.Ytmbdjcmfclgieaa.fnExactTilesFor
namespace Go.Proofs.Ytmbdjcmfclgieaa
/-- The row, under a short name, for the claim. -/
theorem fnExactTilesFor_holds : Rows.FnExactTilesForSaid := fnExactTilesFor.proved
end Go.Proofs.Ytmbdjcmfclgieaa
