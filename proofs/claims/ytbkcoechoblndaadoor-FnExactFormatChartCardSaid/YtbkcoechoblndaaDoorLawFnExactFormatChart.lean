/- The statement FnExactFormatChart, tied: out of the law's walk over abstract states, under what the listed table holds: what comes in is opened, the walk goes, what came in reads as before; then the card. -/
import Derived.Test.YtbkcoechoblndaaDoorRows
import Derived.Test.YtbkcoechoblndaaDoorCards
import Derived.Test.YtbkcoechoblndaaDoorTie
import Derived.Test.YtbkcoechoblndaaDoorWkChart
import Derived.WalkKit
import Derived.ProofKit
import Derived.OpenShut
import Derived.ShutString
import Derived.ChangeOld
import Derived.Below
import Derived.SizedLaws
import Derived.Carry
import Derived.LaidMore
import Derived.LaidSub
import Derived.Stop.Joined
import Derived.SevenTiedAt
import Derived.Lib.LaidTab
namespace Go.Proofs.YtbkcoechoblndaaDoor.fnExactFormatChart
open Go.ChangeShapes Go.WideShapes Go.ChangeAt Go.RowKit Go.Proofs.YtbkcoechoblndaaDoor.Abs
set_option linter.unusedVariables false
set_option maxRecDepth 100000 in
theorem fit73 : AFit Tryd.prog 73 2 TPoint.en TPoint.ok := AFit.struct (fun p : (Int) × (Int) => ⟨p.1, p.2⟩) (by exact fun _ => rfl) (by exact fun _ => rfl) (by exact fun _ h => h) Tryd.underlying73 (by kernel_rfl) (AFitF.cons (s1 := 1) (s2 := 1) rfl (AFit.int (by kernel_rfl) Tryd.underlying3) (AFitF.one rfl (AFit.int (by kernel_rfl) Tryd.underlying3)))
set_option maxRecDepth 100000 in
theorem fit46 : AFit Tryd.prog 46 5 TFeature.en TFeature.ok := AFit.struct (fun p : (Int) × (Int) × (Int) × (ByteArray) × (List TPoint) => ⟨p.1, p.2.1, p.2.2.1, p.2.2.2.1, p.2.2.2.2⟩) (by exact fun _ => rfl) (by exact fun _ => rfl) (by exact fun _ h => h) Tryd.underlying46 (by kernel_rfl) (AFitF.cons (s1 := 1) (s2 := 4) rfl (AFit.int (by kernel_rfl) Tryd.underlying3) (AFitF.cons (s1 := 1) (s2 := 3) rfl (AFit.int (by kernel_rfl) Tryd.underlying3) (AFitF.cons (s1 := 1) (s2 := 2) rfl (AFit.int (by kernel_rfl) Tryd.underlying3) (AFitF.cons (s1 := 1) (s2 := 1) rfl (AFit.string (by kernel_rfl) Tryd.underlying9) (AFitF.one rfl (AFit.slice (by kernel_rfl) Tryd.underlying27 (by decide) fit73))))))
set_option maxRecDepth 100000 in
theorem fit102 : AFit Tryd.prog 102 4 TBox.en TBox.ok := AFit.struct (fun p : (TPoint) × (TPoint) => ⟨p.1, p.2⟩) (by exact fun _ => rfl) (by exact fun _ => rfl) (by exact fun _ h => h) Tryd.underlying102 (by kernel_rfl) (AFitF.cons (s1 := 2) (s2 := 2) rfl fit73 (AFitF.one rfl fit73))
set_option maxRecDepth 100000 in
theorem fit104 : AFit Tryd.prog 104 6 TLabel.en TLabel.ok := AFit.struct (fun p : (Int) × (ByteArray) × (TBox) => ⟨p.1, p.2.1, p.2.2⟩) (by exact fun _ => rfl) (by exact fun _ => rfl) (by exact fun _ h => h) Tryd.underlying104 (by kernel_rfl) (AFitF.cons (s1 := 1) (s2 := 5) rfl (AFit.int (by kernel_rfl) Tryd.underlying3) (AFitF.cons (s1 := 1) (s2 := 4) rfl (AFit.string (by kernel_rfl) Tryd.underlying9) (AFitF.one rfl fit102)))
set_option maxRecDepth 100000 in
theorem fit57 : AFit Tryd.prog 57 2 TChart.en TChart.ok := AFit.struct (fun p : (List TFeature) × (List TLabel) => ⟨p.1, p.2⟩) (by exact fun _ => rfl) (by exact fun _ => rfl) (by exact fun _ h => h) Tryd.underlying57 (by kernel_rfl) (AFitF.cons (s1 := 1) (s2 := 1) rfl (AFit.slice (by kernel_rfl) Tryd.underlying54 (by decide) fit46) (AFitF.one rfl (AFit.slice (by kernel_rfl) Tryd.underlying55 (by decide) fit104)))
theorem own : ownKnob Tryd.prog.godebug = none := by kernel_rfl
theorem laidOut : laidOutB Tryd.prog = true := by kernel_rfl
/-- The door's own heap meets the condition. -/
theorem door_met (os : Os) (args : Array Value) : laidMetH Tryd.prog Rows.fnExactFormatChartRow.laid ((World.doorLaid Tryd.prog 400 os).forCall (fun _ _ => 0) ⟨#[], args, []⟩).memory :=
  laidMetH_of_parts3 (fuel := 8) (laidMet_of_run' 8 (by kernel_rfl) (by kernel_rfl)) (by kernel_rfl) (by kernel_rfl)
theorem tab_of {W : World} (h : laidMetH Tryd.prog Rows.fnExactFormatChartRow.laid W) : TabI W := by
  rw [MakeChecks.laidMetH_plain _ _ _ (by kernel_rfl)] at h
  have h2 := h.filter (fun x => x.1 == "internal/strconv.uint64pow10")
  rw [show (Rows.fnExactFormatChartRow.laid.filter fun x => x.1 == "internal/strconv.uint64pow10") = [("internal/strconv.uint64pow10", Lib.tabData .u64 Lib.pow10Tab)] by kernel_rfl] at h2
  exact Lib.tabIs_of_head (g := 1) (t := 141) (e := 129) (n := 20) (by kernel_rfl) (by kernel_rfl) Tryd.underlying141 Tryd.underlying129 (by kernel_rfl) (by kernel_rfl) h2
theorem tab_keeps {W : World} (h : TabI W) : Keeps TabI W.heap.size W := by
  intro w hb
  have hg : Tryd.prog.globalNamed "internal/strconv.uint64pow10" = some 1 := by kernel_rfl
  unfold TabI Lib.TabIs World.var? at h ⊢
  rw [hg] at h ⊢
  simp only [Option.bind_some] at h ⊢
  have hlt : 1 < W.heap.size := by
    rcases Nat.lt_or_ge 1 W.heap.size with h' | h'
    · exact h'
    · rw [Array.getElem?_eq_none h'] at h; cases h
  rw [hb.block 1 hlt]
  exact h
set_option maxRecDepth 100000 in
theorem lifted (os : Os) (started : os.Started) (H : Type) (enc : TypeId × Value → H) :
    ReturnsInHanded {} Tryd.checked os 8 .any (fun w args => (Rows.fnExactFormatChartSpec.pre enc Tryd.prog Tryd.f8 [] false w args ∧ laidMetH Tryd.prog Rows.fnExactFormatChartRow.laid w) ∧ sizedMet enc Tryd.prog Tryd.f8 (OpenSpec.ofChange Rows.fnExactFormatChartSpec) false w args) (Rows.fnExactFormatChartSpec.post enc Tryd.prog Tryd.f8 false true false false) := by
  refine returnsInHanded_of_change_and (C := Tryd.checked) (X := fun w _ => laidMetH Tryd.prog Rows.fnExactFormatChartRow.laid w) (fun _ _ _ hh h => h.of_heap hh) own started (by kernel_rfl) Tryd.func8
    (ChangeSpec.witness_shaped (enc := enc) (C := Tryd.checked) (os := os) (X := fun w _ => laidMetH Tryd.prog Rows.fnExactFormatChartRow.laid w) false (World.doorLaid Tryd.prog 400 os) #[.agg #[.slice none 0 0, .slice none 0 0]] 8 rfl (World.shaped_of_RefB (by kernel_rfl) (by kernel_rfl)) (by kernel_rfl) (by kernel_rfl) (by kernel_rfl) (door_met os _)) ?_
  intro W base args ds gs before hval0 hW hcnd hsz0 hL _
  have hval : ∀ (j : Nat) t v, Tryd.f8.params[j]? = some t → args[j]? = some v → Value.okWide Tryd.prog W .any base t v := hval0
  have hW' := hW
  obtain ⟨p, q, hA0, hV, rfl, hfz, hnd⟩ := hW
  have hA : DataW.TrodAll enc Tryd.prog W 0 (fun _ => true) true Tryd.f8.params.toList args.toList ds p := hA0
  rw [Tryd.params8] at hA hval
  obtain ⟨v0, vs0, d0, ds0, p0, q0, hargs, rfl, rfl, h0, r0⟩ := trodAll_cons hA
  obtain ⟨rfl, rfl, rfl⟩ := trodAll_nil r0
  obtain rfl : args = #[v0] := by cases args; simp_all
  obtain ⟨rfl, rfl⟩ := trodVars_none hV
  have kk0 := h0
  have lt0 : ∀ x ∈ p0, x.block < W.heap.size := by obtain ⟨m, hm⟩ := kk0; exact DataW.trod_lt m _ _ _ hm
  obtain ⟨cs0, rfl, _⟩ := okWide_struct Tryd.underlying57 (hval 0 57 v0 rfl rfl)
  obtain ⟨fu0, hf0⟩ := h0
  obtain ⟨a0, ok0, rep0⟩ := AFit.aggS fit57 Tryd.underlying57 enc W 0 _ true _ hf0
  clear hA0 hval0 hsz0 hval
  refine (VCallsI.law (law_FnExactFormatChart a0 ok0) (tab_keeps (tab_of hL)) (fun r M h => h.1) (Slots.of rep0 Slots.nil)).mono fun e W' ⟨he, bel⟩ => ?_
  subst he
  exact ⟨_, rfl, _, _, _, [], _, [], hW', trodAll_mk1 (shut_bool Tryd.underlying4 _), (trodAll_cons_mk (Below.trod laidOut (by kernel_rfl) (of_decide_eq_true (by kernel_rfl)) kk0 bel lt0) trodAll_mk0), rfl, bel.frame _, fun h => by cases h⟩
theorem over : Rows.FnExactFormatChartSaid :=
  OpenClaim.holds_of_wide 8 Tryd.f8 rfl rfl rfl rfl rfl rfl rfl ⟨rfl, rfl, rfl, rfl, rfl⟩ rfl rfl rfl rfl rfl (by kernel_rfl) Tryd.func8 (by kernel_rfl)
    (of_decide_eq_true (by kernel_rfl)) (by unfold Func.isWrapper; first | (rw [if_pos (by decide +kernel)]; kernel_rfl) | (rw [if_neg (by decide +kernel)]; exact ⟨rfl, rfl⟩))
    (fun os started H enc _ => lifted os started H enc)
theorem card : Rows.FnExactFormatChartCardSaid :=
  Claim7.holds_tied_plain_at .later [] [.data, .data, .data] true (true, "a8b2fa3d0559e6c37801b8817d79078e2b53ca1822b6b57edd572e86911e7a89") false
    over (fun _ h => by cases h) (by kernel_rfl) (fun _ h => by cases h) fnExactFormatChart_row_tie rfl ⟨rfl, rfl⟩ (by kernel_rfl) rfl
    (fun f fn hf hfn => by
      obtain rfl : f = 8 := Option.some.inj ((show Tryd.prog.funcNamed "loop.example/g03005/laws.FnExactFormatChart" = some 8 by kernel_rfl).symm.trans hf) |>.symm
      obtain rfl : fn = Tryd.f8 := (Option.some.inj (Tryd.func8.symm.trans hfn)).symm
      exact ⟨by kernel_rfl, fun j t ht => by
        rw [Tryd.params8] at ht
        have hm : t ∈ [57] := by simpa using Array.mem_of_getElem? ht
        have hall : ([57].all fun u => !Tryd.prog.wantsStandIn u) = true := by kernel_rfl
        exact (show Tryd.prog.wantsStandIn t = false by simpa using List.all_eq_true.1 hall t hm)⟩)
    (by kernel_rfl)
#print axioms card
end Go.Proofs.YtbkcoechoblndaaDoor.fnExactFormatChart
namespace Go.Proofs.YtbkcoechoblndaaDoor
/-- The card, under a short name, for the claim. -/
theorem fnExactFormatChart_holds : Rows.FnExactFormatChartCardSaid := fnExactFormatChart.card
end Go.Proofs.YtbkcoechoblndaaDoor
