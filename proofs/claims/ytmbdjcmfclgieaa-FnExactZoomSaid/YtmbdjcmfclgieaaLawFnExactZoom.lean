/- The statement FnExactZoom, out of the law's walk over abstract states: what comes in is opened, the walk goes, what came in reads as before. -/
import Derived.Test.YtmbdjcmfclgieaaRows
import Derived.Test.YtmbdjcmfclgieaaWkPan
import Derived.WalkKit
import Derived.ProofKit
import Derived.OpenShut
import Derived.ShutString
import Derived.ChangeOld
import Derived.Below
import Derived.SizedLaws
import Derived.Carry
namespace Go.Proofs.Ytmbdjcmfclgieaa.fnExactZoom
open Go.ChangeShapes Go.WideShapes Go.ChangeAt Go.RowKit Go.Proofs.Ytmbdjcmfclgieaa.Abs
set_option linter.unusedVariables false
theorem fit25 : AFit Try.prog 25 2 TPoint.en TPoint.ok := AFit.struct (fun p : (Int) × (Int) => ⟨p.1, p.2⟩) (by exact fun _ => rfl) (by exact fun _ => rfl) (by exact fun _ h => h) Try.underlying25 (by kernel_rfl) (AFitF.cons rfl (AFit.int (by kernel_rfl) Try.underlying3) (AFitF.one rfl (AFit.int (by kernel_rfl) Try.underlying3)))
theorem fit27 : AFit Try.prog 27 4 TWindow.en TWindow.ok := AFit.struct (fun p : (TPoint) × (Int) × (Int) => ⟨p.1, p.2.1, p.2.2⟩) (by exact fun _ => rfl) (by exact fun _ => rfl) (by exact fun _ h => h) Try.underlying27 (by kernel_rfl) (AFitF.cons rfl fit25 (AFitF.cons rfl (AFit.int (by kernel_rfl) Try.underlying3) (AFitF.one rfl (AFit.int (by kernel_rfl) Try.underlying3))))
theorem own : ownKnob Try.prog.godebug = none := by kernel_rfl
theorem laidOut : laidOutB Try.prog = true := by kernel_rfl
set_option maxRecDepth 100000 in
theorem lifted (os : Os) (started : os.Started) (H : Type) (enc : TypeId × Value → H) :
    ReturnsInHanded {} Try.checked os 6 .any (Rows.fnExactZoomSpec.pre6 enc Try.prog Try.f6 Rows.fnExactZoomRow.domain false) (Rows.fnExactZoomSpec.post enc Try.prog Try.f6 false true false false) := by
  refine returnsInHanded_of_change_sized (C := Try.checked) own started (by kernel_rfl) Try.func6
    (ChangeSpec.witness6 (enc := enc) (C := Try.checked) false ⟨#[], #[.agg #[.int .i64 0, .int .i64 0, .int .i64 0, .int .i64 0], .bool false], []⟩ 8 (by kernel_rfl) (by kernel_rfl) (by kernel_rfl) (by kernel_rfl)) ?_
  intro W base args ds gs before hval0 hW hcnd hsz0 _
  have hval : ∀ (j : Nat) t v, Try.f6.params[j]? = some t → args[j]? = some v → Value.okWide Try.prog W .any base t v := hval0
  have hW' := hW
  obtain ⟨p, q, hA0, hV, rfl, hfz, hnd⟩ := hW
  have hA : DataW.TrodAll enc Try.prog W 0 (fun _ => true) true Try.f6.params.toList args.toList ds p := hA0
  rw [Try.params6] at hA hval
  obtain ⟨v0, vs0, d0, ds0, p0, q0, hargs, rfl, rfl, h0, r0⟩ := trodAll_cons hA
  obtain ⟨v1, vs1, d1, ds1, p1, q1, rfl, rfl, rfl, h1, r1⟩ := trodAll_cons r0
  obtain ⟨rfl, rfl, rfl⟩ := trodAll_nil r1
  obtain rfl : args = #[v0, v1] := by cases args; simp_all
  obtain ⟨rfl, rfl⟩ := trodVars_none hV
  have kk0 := h0
  have lt0 : ∀ x ∈ p0, x.block < W.heap.size := by obtain ⟨m, hm⟩ := kk0; exact DataW.trod_lt m _ _ _ hm
  obtain ⟨cs0, rfl, _⟩ := okWide_struct Try.underlying27 (hval 0 27 v0 rfl rfl)
  obtain ⟨fu0, hf0⟩ := h0
  obtain ⟨a0, ok0, rep0⟩ := AFit.aggS fit27 Try.underlying27 enc W 0 _ true _ hf0
  have kk1 := h1
  have lt1 : ∀ x ∈ p1, x.block < W.heap.size := by obtain ⟨m, hm⟩ := kk1; exact DataW.trod_lt m _ _ _ hm
  obtain ⟨u1, rfl⟩ := okWide_bool Try.underlying4 (hval 1 4 v1 rfl rfl)
  obtain ⟨fu1, hf1⟩ := h1
  obtain ⟨a1, ok1, rep1⟩ := AFit.one (AFit.bool (by kernel_rfl) Try.underlying4) enc W 0 _ true _ rfl hf1
  clear hA0 hval0 hsz0 hval
  refine (VCalls.law (law_FnExactZoom a0 a1 ok0 ok1) (fun r M h => h.1) (Slots.of rep0 (Slots.of rep1 Slots.nil))).mono fun e W' ⟨he, bel⟩ => ?_
  subst he
  exact ⟨_, rfl, _, _, _, [], _, [], hW', trodAll_mk1 (shut_bool Try.underlying4 _), (trodAll_cons_mk (Below.trod laidOut (by kernel_rfl) (of_decide_eq_true (by kernel_rfl)) kk0 bel lt0) (trodAll_cons_mk (Below.trod laidOut (by kernel_rfl) (of_decide_eq_true (by kernel_rfl)) kk1 bel lt1) trodAll_mk0)), rfl, bel.frame _, fun h => by cases h⟩
theorem over : Rows.fnExactZoomRow.holds Try.pinned (OpenSpec.ofChange Rows.fnExactZoomSpec) :=
  OpenClaim.holds_of_wide 6 Try.f6 rfl rfl rfl rfl rfl rfl rfl ⟨rfl, rfl, rfl, rfl, rfl⟩ rfl rfl rfl rfl rfl (by kernel_rfl) Try.func6 (by kernel_rfl)
    (of_decide_eq_true (by kernel_rfl)) (by unfold Func.isWrapper; first | (rw [if_pos (by decide +kernel)]; kernel_rfl) | (rw [if_neg (by decide +kernel)]; exact ⟨rfl, rfl⟩))
    (fun os started H enc _ => lifted os started H enc)
theorem proved : Rows.FnExactZoomSaid := over
#print axioms proved
end Go.Proofs.Ytmbdjcmfclgieaa.fnExactZoom
namespace Go.Proofs.Ytmbdjcmfclgieaa
/-- The row, under a short name, for the claim. -/
theorem fnExactZoom_holds : Rows.FnExactZoomSaid := fnExactZoom.proved
end Go.Proofs.Ytmbdjcmfclgieaa
