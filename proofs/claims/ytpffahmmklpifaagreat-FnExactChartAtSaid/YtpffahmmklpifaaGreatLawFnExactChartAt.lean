/- The statement FnExactChartAt, out of the law's walk over abstract states: what comes in is opened, the walk goes, what came in reads as before. -/
import Derived.Test.YtpffahmmklpifaaGreatRows
import Derived.WalkKit
import Derived.ProofKit
import Derived.OpenShut
import Derived.ShutString
import Derived.ChangeOld
import Derived.Below
import Derived.SizedLaws
import Derived.Carry
import Derived.Test.YtpffahmmklpifaaGreatBnF
namespace Go.Proofs.YtpffahmmklpifaaGreat.fnExactChartAt
open Go.ChangeShapes Go.WideShapes Go.ChangeAt Go.RowKit Go.Proofs.YtpffahmmklpifaaGreat.Abs
set_option linter.unusedVariables false
set_option maxRecDepth 100000 in
theorem fit224 : AFit Tryz.prog 224 2 TPoint.en TPoint.ok := AFit.struct (fun p : (Int) × (Int) => ⟨p.1, p.2⟩) (by exact fun _ => rfl) (by exact fun _ => rfl) (by exact fun _ h => h) Tryz.underlying224 (by kernel_rfl) (AFitF.cons (s1 := 1) (s2 := 1) rfl (AFit.int (by kernel_rfl) Tryz.underlying3) (AFitF.one rfl (AFit.int (by kernel_rfl) Tryz.underlying3)))
set_option maxRecDepth 100000 in
theorem fit100 : AFit Tryz.prog 100 5 TFeature.en TFeature.ok := AFit.struct (fun p : (Int) × (Int) × (Int) × (ByteArray) × (List TPoint) => ⟨p.1, p.2.1, p.2.2.1, p.2.2.2.1, p.2.2.2.2⟩) (by exact fun _ => rfl) (by exact fun _ => rfl) (by exact fun _ h => h) Tryz.underlying100 (by kernel_rfl) (AFitF.cons (s1 := 1) (s2 := 4) rfl (AFit.int (by kernel_rfl) Tryz.underlying3) (AFitF.cons (s1 := 1) (s2 := 3) rfl (AFit.int (by kernel_rfl) Tryz.underlying3) (AFitF.cons (s1 := 1) (s2 := 2) rfl (AFit.int (by kernel_rfl) Tryz.underlying3) (AFitF.cons (s1 := 1) (s2 := 1) rfl (AFit.string (by kernel_rfl) Tryz.underlying9) (AFitF.one rfl (AFit.slice (by kernel_rfl) Tryz.underlying98 (by decide) fit224))))))
set_option maxRecDepth 100000 in
theorem fit129 : AFit Tryz.prog 129 8 TEntry.en TEntry.ok := AFit.struct (fun p : (TFeature) × (Int) × (Int) × (Bool) => ⟨p.1, p.2.1, p.2.2.1, p.2.2.2⟩) (by exact fun _ => rfl) (by exact fun _ => rfl) (by exact fun _ h => h) Tryz.underlying129 (by kernel_rfl) (AFitF.cons (s1 := 5) (s2 := 3) rfl fit100 (AFitF.cons (s1 := 1) (s2 := 2) rfl (AFit.int (by kernel_rfl) Tryz.underlying3) (AFitF.cons (s1 := 1) (s2 := 1) rfl (AFit.int (by kernel_rfl) Tryz.underlying3) (AFitF.one rfl (AFit.bool (by kernel_rfl) Tryz.underlying4)))))
set_option maxRecDepth 100000 in
theorem fit42 : AFit Tryz.prog 42 3 TLevel.en TLevel.ok := AFit.struct (fun p : (Int) × (Int) × (Int) => ⟨p.1, p.2.1, p.2.2⟩) (by exact fun _ => rfl) (by exact fun _ => rfl) (by exact fun _ h => h) Tryz.underlying42 (by kernel_rfl) (AFitF.cons (s1 := 1) (s2 := 2) rfl (AFit.int (by kernel_rfl) Tryz.underlying3) (AFitF.cons (s1 := 1) (s2 := 1) rfl (AFit.int (by kernel_rfl) Tryz.underlying3) (AFitF.one rfl (AFit.int (by kernel_rfl) Tryz.underlying3))))
set_option maxRecDepth 100000 in
theorem fit132 : AFit Tryz.prog 132 3 TEdition.en TEdition.ok := AFit.struct (fun p : (Int) × (List TFeature) × (Int) => ⟨p.1, p.2.1, p.2.2⟩) (by exact fun _ => rfl) (by exact fun _ => rfl) (by exact fun _ h => h) Tryz.underlying132 (by kernel_rfl) (AFitF.cons (s1 := 1) (s2 := 2) rfl (AFit.int (by kernel_rfl) Tryz.underlying3) (AFitF.cons (s1 := 1) (s2 := 1) rfl (AFit.slice (by kernel_rfl) Tryz.underlying40 (by decide) fit100) (AFitF.one rfl (AFit.int (by kernel_rfl) Tryz.underlying3))))
set_option maxRecDepth 100000 in
theorem fit26 : AFit Tryz.prog 26 3 TCover.en TCover.ok := AFit.struct (fun p : (Int) × (Int) × (ByteArray) => ⟨p.1, p.2.1, p.2.2⟩) (by exact fun _ => rfl) (by exact fun _ => rfl) (by exact fun _ h => h) Tryz.underlying26 (by kernel_rfl) (AFitF.cons (s1 := 1) (s2 := 2) rfl (AFit.int (by kernel_rfl) Tryz.underlying3) (AFitF.cons (s1 := 1) (s2 := 1) rfl (AFit.int (by kernel_rfl) Tryz.underlying3) (AFitF.one rfl (AFit.string (by kernel_rfl) Tryz.underlying9))))
set_option maxRecDepth 100000 in
theorem fit28 : AFit Tryz.prog 28 7 TAtlas.en TAtlas.ok := AFit.struct (fun p : (List TEntry) × (List TLevel) × (List TEdition) × (TCover) × (Int) => ⟨p.1, p.2.1, p.2.2.1, p.2.2.2.1, p.2.2.2.2⟩) (by exact fun _ => rfl) (by exact fun _ => rfl) (by exact fun _ h => h) Tryz.underlying28 (by kernel_rfl) (AFitF.cons (s1 := 1) (s2 := 6) rfl (AFit.slice (by kernel_rfl) Tryz.underlying22 (by decide) fit129) (AFitF.cons (s1 := 1) (s2 := 5) rfl (AFit.slice (by kernel_rfl) Tryz.underlying23 (by decide) fit42) (AFitF.cons (s1 := 1) (s2 := 4) rfl (AFit.slice (by kernel_rfl) Tryz.underlying24 (by decide) fit132) (AFitF.cons (s1 := 3) (s2 := 1) rfl fit26 (AFitF.one rfl (AFit.int (by kernel_rfl) Tryz.underlying3))))))
theorem own : ownKnob Tryz.prog.godebug = none := by kernel_rfl
theorem laidOut : laidOutB Tryz.prog = true := by kernel_rfl
set_option maxRecDepth 100000 in
theorem lifted (os : Os) (started : os.Started) (H : Type) (enc : TypeId × Value → H) :
    ReturnsInHanded {} Tryz.checked os 10 .any (Rows.fnExactChartAtSpec.pre6 enc Tryz.prog Tryz.f10 Rows.fnExactChartAtRow.domain false) (Rows.fnExactChartAtSpec.post enc Tryz.prog Tryz.f10 false true false false) := by
  refine returnsInHanded_of_change_sized (C := Tryz.checked) own started (by kernel_rfl) Tryz.func10
    (ChangeSpec.witness6 (enc := enc) (C := Tryz.checked) false ⟨#[], #[.agg #[.slice none 0 0, .slice none 0 0, .slice none 0 0, .int .i64 0, .int .i64 0, .string ByteArray.empty, .int .i64 0], .int .i64 0], []⟩ 8 (by kernel_rfl) (by kernel_rfl) (by kernel_rfl) (by kernel_rfl)) ?_
  intro W base args ds gs before hval0 hW hcnd hsz0 _
  have hval : ∀ (j : Nat) t v, Tryz.f10.params[j]? = some t → args[j]? = some v → Value.okWide Tryz.prog W .any base t v := hval0
  have hW' := hW
  obtain ⟨p, q, hA0, hV, rfl, hfz, hnd⟩ := hW
  have hA : DataW.TrodAll enc Tryz.prog W 0 (fun _ => true) true Tryz.f10.params.toList args.toList ds p := hA0
  rw [Tryz.params10] at hA hval
  obtain ⟨v0, vs0, d0, ds0, p0, q0, hargs, rfl, rfl, h0, r0⟩ := trodAll_cons hA
  obtain ⟨v1, vs1, d1, ds1, p1, q1, rfl, rfl, rfl, h1, r1⟩ := trodAll_cons r0
  obtain ⟨rfl, rfl, rfl⟩ := trodAll_nil r1
  obtain rfl : args = #[v0, v1] := by cases args; simp_all
  obtain ⟨rfl, rfl⟩ := trodVars_none hV
  have kk0 := h0
  have lt0 : ∀ x ∈ p0, x.block < W.heap.size := by obtain ⟨m, hm⟩ := kk0; exact DataW.trod_lt m _ _ _ hm
  obtain ⟨cs0, rfl, _⟩ := okWide_struct Tryz.underlying28 (hval 0 28 v0 rfl rfl)
  obtain ⟨fu0, hf0⟩ := h0
  obtain ⟨a0, ok0, rep0⟩ := AFit.aggS fit28 Tryz.underlying28 enc W 0 _ true _ hf0
  have kk1 := h1
  have lt1 : ∀ x ∈ p1, x.block < W.heap.size := by obtain ⟨m, hm⟩ := kk1; exact DataW.trod_lt m _ _ _ hm
  obtain ⟨u1, rfl⟩ := okWide_int Tryz.underlying3 (hval 1 3 v1 rfl rfl)
  obtain ⟨fu1, hf1⟩ := h1
  obtain ⟨a1, ok1, rep1⟩ := AFit.one (AFit.int (by kernel_rfl) Tryz.underlying3) enc W 0 _ true _ rfl hf1
  clear hA0 hval0 hsz0 hval
  refine (VCalls.law (law_FnExactChartAt a0 a1 ok0 ok1) (fun r M h => h.1) (Slots.of rep0 (Slots.of rep1 Slots.nil))).mono fun e W' ⟨he, bel⟩ => ?_
  subst he
  exact ⟨_, rfl, _, _, _, [], _, [], hW', trodAll_mk1 (shut_bool Tryz.underlying4 _), (trodAll_cons_mk (Below.trod laidOut (by kernel_rfl) (of_decide_eq_true (by kernel_rfl)) kk0 bel lt0) (trodAll_cons_mk (Below.trod laidOut (by kernel_rfl) (of_decide_eq_true (by kernel_rfl)) kk1 bel lt1) trodAll_mk0)), rfl, bel.frame _, fun h => by cases h⟩
theorem and_t {a b : Bool} (h : a = true) (h2 : b = true) : (a && b) = true := by rw [h, h2]; rfl
set_option maxHeartbeats 8000000 in
theorem closed : joinedFacts Tryz.pinned.checked.prog 10 Tryz.f10 Rows.fnExactChartAtSpec Rows.fnExactChartAtRow = true := by
  unfold joinedFacts
  repeat' with_reducible apply and_t
  all_goals (as_aux_lemma => kernel_rfl)
theorem over : Rows.fnExactChartAtRow.holds Tryz.pinned (OpenSpec.ofChange Rows.fnExactChartAtSpec) :=
  OpenClaim.holds_of_wide 10 Tryz.f10 rfl rfl rfl rfl rfl rfl rfl ⟨rfl, rfl, rfl, rfl, rfl⟩ rfl rfl rfl rfl rfl (by kernel_rfl) Tryz.func10 closed
    (of_decide_eq_true (by kernel_rfl)) (by unfold Func.isWrapper; first | (rw [if_pos (by decide +kernel)]; kernel_rfl) | (rw [if_neg (by decide +kernel)]; exact ⟨rfl, rfl⟩))
    (fun os started H enc _ => lifted os started H enc)
theorem proved : Rows.FnExactChartAtSaid := over
#print axioms proved
end Go.Proofs.YtpffahmmklpifaaGreat.fnExactChartAt
namespace Go.Proofs.YtpffahmmklpifaaGreat
/-- The row, under a short name, for the claim. -/
theorem fnExactChartAt_holds : Rows.FnExactChartAtSaid := fnExactChartAt.proved
end Go.Proofs.YtpffahmmklpifaaGreat
