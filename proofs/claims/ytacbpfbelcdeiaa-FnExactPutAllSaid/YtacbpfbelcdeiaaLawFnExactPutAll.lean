/- The statement FnExactPutAll, out of the law's walk over abstract states: what comes in is opened, the walk goes, what came in reads as before. -/
import Derived.Test.YtacbpfbelcdeiaaRows
import Derived.WalkKit
import Derived.ProofKit
import Derived.OpenShut
import Derived.ShutString
import Derived.ChangeOld
import Derived.Below
import Derived.SizedLaws
import Derived.Carry
import Derived.Test.YtacbpfbelcdeiaaBnA
namespace Go.Proofs.Ytacbpfbelcdeiaa.fnExactPutAll
open Go.ChangeShapes Go.WideShapes Go.ChangeAt Go.RowKit Go.Proofs.Ytacbpfbelcdeiaa.Abs
set_option linter.unusedVariables false
set_option maxRecDepth 100000 in
theorem fit34 : AFit Try.prog 34 2 TPoint.en TPoint.ok := AFit.struct (fun p : (Int) × (Int) => ⟨p.1, p.2⟩) (by exact fun _ => rfl) (by exact fun _ => rfl) (by exact fun _ h => h) Try.underlying34 (by kernel_rfl) (AFitF.cons (s1 := 1) (s2 := 1) rfl (AFit.int (by kernel_rfl) Try.underlying3) (AFitF.one rfl (AFit.int (by kernel_rfl) Try.underlying3)))
set_option maxRecDepth 100000 in
theorem fit49 : AFit Try.prog 49 5 TFeature.en TFeature.ok := AFit.struct (fun p : (Int) × (Int) × (Int) × (ByteArray) × (List TPoint) => ⟨p.1, p.2.1, p.2.2.1, p.2.2.2.1, p.2.2.2.2⟩) (by exact fun _ => rfl) (by exact fun _ => rfl) (by exact fun _ h => h) Try.underlying49 (by kernel_rfl) (AFitF.cons (s1 := 1) (s2 := 4) rfl (AFit.int (by kernel_rfl) Try.underlying3) (AFitF.cons (s1 := 1) (s2 := 3) rfl (AFit.int (by kernel_rfl) Try.underlying3) (AFitF.cons (s1 := 1) (s2 := 2) rfl (AFit.int (by kernel_rfl) Try.underlying3) (AFitF.cons (s1 := 1) (s2 := 1) rfl (AFit.string (by kernel_rfl) Try.underlying9) (AFitF.one rfl (AFit.slice (by kernel_rfl) Try.underlying47 (by decide) fit34))))))
theorem own : ownKnob Try.prog.godebug = none := by kernel_rfl
theorem laidOut : laidOutB Try.prog = true := by kernel_rfl
set_option maxRecDepth 100000 in
theorem lifted (os : Os) (started : os.Started) (H : Type) (enc : TypeId × Value → H) :
    ReturnsInHanded {} Try.checked os 3 .any (Rows.fnExactPutAllSpec.pre6 enc Try.prog Try.f3 Rows.fnExactPutAllRow.domain false) (Rows.fnExactPutAllSpec.post enc Try.prog Try.f3 false true false false) := by
  refine returnsInHanded_of_change_sized (C := Try.checked) own started (by kernel_rfl) Try.func3
    (ChangeSpec.witness6 (enc := enc) (C := Try.checked) false ⟨#[], #[.slice none 0 0, .int .i64 0], []⟩ 8 (by kernel_rfl) (by kernel_rfl) (by kernel_rfl) (by kernel_rfl)) ?_
  intro W base args ds gs before hval0 hW hcnd hsz0 _
  have hval : ∀ (j : Nat) t v, Try.f3.params[j]? = some t → args[j]? = some v → Value.okWide Try.prog W .any base t v := hval0
  have hW' := hW
  obtain ⟨p, q, hA0, hV, rfl, hfz, hnd⟩ := hW
  have hA : DataW.TrodAll enc Try.prog W 0 (fun _ => true) true Try.f3.params.toList args.toList ds p := hA0
  rw [Try.params3] at hA hval
  obtain ⟨v0, vs0, d0, ds0, p0, q0, hargs, rfl, rfl, h0, r0⟩ := trodAll_cons hA
  obtain ⟨v1, vs1, d1, ds1, p1, q1, rfl, rfl, rfl, h1, r1⟩ := trodAll_cons r0
  obtain ⟨rfl, rfl, rfl⟩ := trodAll_nil r1
  obtain rfl : args = #[v0, v1] := by cases args; simp_all
  obtain ⟨rfl, rfl⟩ := trodVars_none hV
  have kk0 := h0
  have lt0 : ∀ x ∈ p0, x.block < W.heap.size := by obtain ⟨m, hm⟩ := kk0; exact DataW.trod_lt m _ _ _ hm
  obtain ⟨ua0, ul0, uc0, rfl⟩ := okWide_slice Try.underlying22 (hval 0 22 v0 rfl rfl)
  obtain ⟨fu0, hf0⟩ := h0
  obtain ⟨a0, ok0, rep0⟩ := AFit.one (AFit.slice (by kernel_rfl) Try.underlying22 (by decide) fit49) enc W 0 _ true _ rfl hf0
  have kk1 := h1
  have lt1 : ∀ x ∈ p1, x.block < W.heap.size := by obtain ⟨m, hm⟩ := kk1; exact DataW.trod_lt m _ _ _ hm
  obtain ⟨u1, rfl⟩ := okWide_int Try.underlying3 (hval 1 3 v1 rfl rfl)
  obtain ⟨fu1, hf1⟩ := h1
  obtain ⟨a1, ok1, rep1⟩ := AFit.one (AFit.int (by kernel_rfl) Try.underlying3) enc W 0 _ true _ rfl hf1
  clear hA0 hval0 hsz0 hval
  refine (VCalls.law (law_FnExactPutAll a0 a1 ok0 ok1) (fun r M h => h.1) (Slots.of rep0 (Slots.of rep1 Slots.nil))).mono fun e W' ⟨he, bel⟩ => ?_
  subst he
  exact ⟨_, rfl, _, _, _, [], _, [], hW', trodAll_mk1 (shut_bool Try.underlying4 _), (trodAll_cons_mk (Below.trod laidOut (by kernel_rfl) (of_decide_eq_true (by kernel_rfl)) kk0 bel lt0) (trodAll_cons_mk (Below.trod laidOut (by kernel_rfl) (of_decide_eq_true (by kernel_rfl)) kk1 bel lt1) trodAll_mk0)), rfl, bel.frame _, fun h => by cases h⟩
theorem over : Rows.fnExactPutAllRow.holds Try.pinned (OpenSpec.ofChange Rows.fnExactPutAllSpec) :=
  OpenClaim.holds_of_wide 3 Try.f3 rfl rfl rfl rfl rfl rfl rfl ⟨rfl, rfl, rfl, rfl, rfl⟩ rfl rfl rfl rfl rfl (by kernel_rfl) Try.func3 (by kernel_rfl)
    (of_decide_eq_true (by kernel_rfl)) (by unfold Func.isWrapper; first | (rw [if_pos (by decide +kernel)]; kernel_rfl) | (rw [if_neg (by decide +kernel)]; exact ⟨rfl, rfl⟩))
    (fun os started H enc _ => lifted os started H enc)
theorem proved : Rows.FnExactPutAllSaid := over
#print axioms proved
end Go.Proofs.Ytacbpfbelcdeiaa.fnExactPutAll
namespace Go.Proofs.Ytacbpfbelcdeiaa
/-- The row, under a short name, for the claim. -/
theorem fnExactPutAll_holds : Rows.FnExactPutAllSaid := fnExactPutAll.proved
end Go.Proofs.Ytacbpfbelcdeiaa
