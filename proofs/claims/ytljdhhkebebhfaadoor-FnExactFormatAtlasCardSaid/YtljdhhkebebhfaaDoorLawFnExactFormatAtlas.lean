/- The statement FnExactFormatAtlas, tied: out of the law's walk over abstract states, under what the listed table holds: what comes in is opened, the walk goes, what came in reads as before; then the card. -/
import Derived.Test.YtljdhhkebebhfaaDoorRows
import Derived.Test.YtljdhhkebebhfaaDoorCards
import Derived.Test.YtljdhhkebebhfaaDoorTie
import Derived.WalkKit
import Derived.ProofKit
import Derived.OpenShut
import Derived.ShutString
import Derived.ChangeOld
import Derived.Below
import Derived.SizedLaws
import Derived.Carry
import Derived.LaidMore
import Derived.LaidSub
import Derived.Stop.Joined
import Derived.SevenTiedAt
import Derived.Lib.LaidTab
import Derived.Test.YtljdhhkebebhfaaDoorBnB
namespace Go.Proofs.YtljdhhkebebhfaaDoor.fnExactFormatAtlas
open Go.ChangeShapes Go.WideShapes Go.ChangeAt Go.RowKit Go.Proofs.YtljdhhkebebhfaaDoor.Abs
set_option linter.unusedVariables false
set_option maxRecDepth 100000 in
theorem fit112 : AFit Tryd.prog 112 2 TPoint.en TPoint.ok := AFit.struct (fun p : (Int) × (Int) => ⟨p.1, p.2⟩) (by exact fun _ => rfl) (by exact fun _ => rfl) (by exact fun _ h => h) Tryd.underlying112 (by kernel_rfl) (AFitF.cons (s1 := 1) (s2 := 1) rfl (AFit.int (by kernel_rfl) Tryd.underlying3) (AFitF.one rfl (AFit.int (by kernel_rfl) Tryd.underlying3)))
set_option maxRecDepth 100000 in
theorem fit58 : AFit Tryd.prog 58 5 TFeature.en TFeature.ok := AFit.struct (fun p : (Int) × (Int) × (Int) × (ByteArray) × (List TPoint) => ⟨p.1, p.2.1, p.2.2.1, p.2.2.2.1, p.2.2.2.2⟩) (by exact fun _ => rfl) (by exact fun _ => rfl) (by exact fun _ h => h) Tryd.underlying58 (by kernel_rfl) (AFitF.cons (s1 := 1) (s2 := 4) rfl (AFit.int (by kernel_rfl) Tryd.underlying3) (AFitF.cons (s1 := 1) (s2 := 3) rfl (AFit.int (by kernel_rfl) Tryd.underlying3) (AFitF.cons (s1 := 1) (s2 := 2) rfl (AFit.int (by kernel_rfl) Tryd.underlying3) (AFitF.cons (s1 := 1) (s2 := 1) rfl (AFit.string (by kernel_rfl) Tryd.underlying9) (AFitF.one rfl (AFit.slice (by kernel_rfl) Tryd.underlying56 (by decide) fit112))))))
set_option maxRecDepth 100000 in
theorem fit60 : AFit Tryd.prog 60 8 TEntry.en TEntry.ok := AFit.struct (fun p : (TFeature) × (Int) × (Int) × (Bool) => ⟨p.1, p.2.1, p.2.2.1, p.2.2.2⟩) (by exact fun _ => rfl) (by exact fun _ => rfl) (by exact fun _ h => h) Tryd.underlying60 (by kernel_rfl) (AFitF.cons (s1 := 5) (s2 := 3) rfl fit58 (AFitF.cons (s1 := 1) (s2 := 2) rfl (AFit.int (by kernel_rfl) Tryd.underlying3) (AFitF.cons (s1 := 1) (s2 := 1) rfl (AFit.int (by kernel_rfl) Tryd.underlying3) (AFitF.one rfl (AFit.bool (by kernel_rfl) Tryd.underlying4)))))
set_option maxRecDepth 100000 in
theorem fit79 : AFit Tryd.prog 79 3 TLevel.en TLevel.ok := AFit.struct (fun p : (Int) × (Int) × (Int) => ⟨p.1, p.2.1, p.2.2⟩) (by exact fun _ => rfl) (by exact fun _ => rfl) (by exact fun _ h => h) Tryd.underlying79 (by kernel_rfl) (AFitF.cons (s1 := 1) (s2 := 2) rfl (AFit.int (by kernel_rfl) Tryd.underlying3) (AFitF.cons (s1 := 1) (s2 := 1) rfl (AFit.int (by kernel_rfl) Tryd.underlying3) (AFitF.one rfl (AFit.int (by kernel_rfl) Tryd.underlying3))))
set_option maxRecDepth 100000 in
theorem fit64 : AFit Tryd.prog 64 3 TEdition.en TEdition.ok := AFit.struct (fun p : (Int) × (List TFeature) × (Int) => ⟨p.1, p.2.1, p.2.2⟩) (by exact fun _ => rfl) (by exact fun _ => rfl) (by exact fun _ h => h) Tryd.underlying64 (by kernel_rfl) (AFitF.cons (s1 := 1) (s2 := 2) rfl (AFit.int (by kernel_rfl) Tryd.underlying3) (AFitF.cons (s1 := 1) (s2 := 1) rfl (AFit.slice (by kernel_rfl) Tryd.underlying62 (by decide) fit58) (AFitF.one rfl (AFit.int (by kernel_rfl) Tryd.underlying3))))
set_option maxRecDepth 100000 in
theorem fit26 : AFit Tryd.prog 26 3 TCover.en TCover.ok := AFit.struct (fun p : (Int) × (Int) × (ByteArray) => ⟨p.1, p.2.1, p.2.2⟩) (by exact fun _ => rfl) (by exact fun _ => rfl) (by exact fun _ h => h) Tryd.underlying26 (by kernel_rfl) (AFitF.cons (s1 := 1) (s2 := 2) rfl (AFit.int (by kernel_rfl) Tryd.underlying3) (AFitF.cons (s1 := 1) (s2 := 1) rfl (AFit.int (by kernel_rfl) Tryd.underlying3) (AFitF.one rfl (AFit.string (by kernel_rfl) Tryd.underlying9))))
set_option maxRecDepth 100000 in
theorem fit28 : AFit Tryd.prog 28 7 TAtlas.en TAtlas.ok := AFit.struct (fun p : (List TEntry) × (List TLevel) × (List TEdition) × (TCover) × (Int) => ⟨p.1, p.2.1, p.2.2.1, p.2.2.2.1, p.2.2.2.2⟩) (by exact fun _ => rfl) (by exact fun _ => rfl) (by exact fun _ h => h) Tryd.underlying28 (by kernel_rfl) (AFitF.cons (s1 := 1) (s2 := 6) rfl (AFit.slice (by kernel_rfl) Tryd.underlying22 (by decide) fit60) (AFitF.cons (s1 := 1) (s2 := 5) rfl (AFit.slice (by kernel_rfl) Tryd.underlying23 (by decide) fit79) (AFitF.cons (s1 := 1) (s2 := 4) rfl (AFit.slice (by kernel_rfl) Tryd.underlying24 (by decide) fit64) (AFitF.cons (s1 := 3) (s2 := 1) rfl fit26 (AFitF.one rfl (AFit.int (by kernel_rfl) Tryd.underlying3))))))
theorem own : ownKnob Tryd.prog.godebug = none := by kernel_rfl
theorem laidOut : laidOutB Tryd.prog = true := by kernel_rfl
/-- The door's own heap meets the condition. -/
theorem door_met (os : Os) (args : Array Value) : laidMetH Tryd.prog Rows.fnExactFormatAtlasRow.laid ((World.doorLaid Tryd.prog 400 os).forCall (fun _ _ => 0) ⟨#[], args, []⟩).memory :=
  laidMetH_of_parts3 (fuel := 8) (laidMet_of_run' 8 (by kernel_rfl) (by kernel_rfl)) (by kernel_rfl) (by kernel_rfl)
theorem tab_of {W : World} (h : laidMetH Tryd.prog Rows.fnExactFormatAtlasRow.laid W) : TabI W := by
  rw [MakeChecks.laidMetH_plain _ _ _ (by kernel_rfl)] at h
  have h2 := h.filter (fun x => x.1 == "internal/strconv.uint64pow10")
  rw [show (Rows.fnExactFormatAtlasRow.laid.filter fun x => x.1 == "internal/strconv.uint64pow10") = [("internal/strconv.uint64pow10", Lib.tabData .u64 Lib.pow10Tab)] by kernel_rfl] at h2
  exact Lib.tabIs_of_head (g := 0) (t := 127) (e := 117) (n := 20) (by kernel_rfl) (by kernel_rfl) Tryd.underlying127 Tryd.underlying117 (by kernel_rfl) (by kernel_rfl) h2
theorem tab_keeps {W : World} (h : TabI W) : Keeps TabI W.heap.size W := by
  intro w hb
  have hg : Tryd.prog.globalNamed "internal/strconv.uint64pow10" = some 0 := by kernel_rfl
  unfold TabI Lib.TabIs World.var? at h ⊢
  rw [hg] at h ⊢
  simp only [Option.bind_some] at h ⊢
  have hlt : 0 < W.heap.size := by
    rcases Nat.lt_or_ge 0 W.heap.size with h' | h'
    · exact h'
    · rw [Array.getElem?_eq_none h'] at h; cases h
  rw [hb.block 0 hlt]
  exact h
set_option maxRecDepth 100000 in
theorem lifted (os : Os) (started : os.Started) (H : Type) (enc : TypeId × Value → H) :
    ReturnsInHanded {} Tryd.checked os 3 .any (fun w args => (Rows.fnExactFormatAtlasSpec.pre enc Tryd.prog Tryd.f3 [] false w args ∧ laidMetH Tryd.prog Rows.fnExactFormatAtlasRow.laid w) ∧ sizedMet enc Tryd.prog Tryd.f3 (OpenSpec.ofChange Rows.fnExactFormatAtlasSpec) false w args) (Rows.fnExactFormatAtlasSpec.post enc Tryd.prog Tryd.f3 false true false false) := by
  refine returnsInHanded_of_change_and (C := Tryd.checked) (X := fun w _ => laidMetH Tryd.prog Rows.fnExactFormatAtlasRow.laid w) (fun _ _ _ hh h => h.of_heap hh) own started (by kernel_rfl) Tryd.func3
    (ChangeSpec.witness_shaped (enc := enc) (C := Tryd.checked) (os := os) (X := fun w _ => laidMetH Tryd.prog Rows.fnExactFormatAtlasRow.laid w) false (World.doorLaid Tryd.prog 400 os) #[.agg #[.slice none 0 0, .slice none 0 0, .slice none 0 0, .int .i64 0, .int .i64 0, .string ByteArray.empty, .int .i64 0]] 8 rfl (World.shaped_of_RefB (by kernel_rfl) (by kernel_rfl)) (by kernel_rfl) (by kernel_rfl) (by kernel_rfl) (door_met os _)) ?_
  intro W base args ds gs before hval0 hW hcnd hsz0 hL _
  have hval : ∀ (j : Nat) t v, Tryd.f3.params[j]? = some t → args[j]? = some v → Value.okWide Tryd.prog W .any base t v := hval0
  have hW' := hW
  obtain ⟨p, q, hA0, hV, rfl, hfz, hnd⟩ := hW
  have hA : DataW.TrodAll enc Tryd.prog W 0 (fun _ => true) true Tryd.f3.params.toList args.toList ds p := hA0
  rw [Tryd.params3] at hA hval
  obtain ⟨v0, vs0, d0, ds0, p0, q0, hargs, rfl, rfl, h0, r0⟩ := trodAll_cons hA
  obtain ⟨rfl, rfl, rfl⟩ := trodAll_nil r0
  obtain rfl : args = #[v0] := by cases args; simp_all
  obtain ⟨rfl, rfl⟩ := trodVars_none hV
  have kk0 := h0
  have lt0 : ∀ x ∈ p0, x.block < W.heap.size := by obtain ⟨m, hm⟩ := kk0; exact DataW.trod_lt m _ _ _ hm
  obtain ⟨cs0, rfl, _⟩ := okWide_struct Tryd.underlying28 (hval 0 28 v0 rfl rfl)
  obtain ⟨fu0, hf0⟩ := h0
  obtain ⟨a0, ok0, rep0⟩ := AFit.aggS fit28 Tryd.underlying28 enc W 0 _ true _ hf0
  clear hA0 hval0 hsz0 hval
  refine (VCallsI.law (law_FnExactFormatAtlas a0 ok0) (tab_keeps (tab_of hL)) (fun r M h => h.1) (Slots.of rep0 Slots.nil)).mono fun e W' ⟨he, bel⟩ => ?_
  subst he
  exact ⟨_, rfl, _, _, _, [], _, [], hW', trodAll_mk1 (shut_bool Tryd.underlying4 _), (trodAll_cons_mk (Below.trod laidOut (by kernel_rfl) (of_decide_eq_true (by kernel_rfl)) kk0 bel lt0) trodAll_mk0), rfl, bel.frame _, fun h => by cases h⟩
theorem over : Rows.FnExactFormatAtlasSaid :=
  OpenClaim.holds_of_wide 3 Tryd.f3 rfl rfl rfl rfl rfl rfl rfl ⟨rfl, rfl, rfl, rfl, rfl⟩ rfl rfl rfl rfl rfl (by kernel_rfl) Tryd.func3 (by kernel_rfl)
    (of_decide_eq_true (by kernel_rfl)) (by unfold Func.isWrapper; first | (rw [if_pos (by decide +kernel)]; kernel_rfl) | (rw [if_neg (by decide +kernel)]; exact ⟨rfl, rfl⟩))
    (fun os started H enc _ => lifted os started H enc)
theorem card : Rows.FnExactFormatAtlasCardSaid :=
  Claim7.holds_tied_plain_at .later [] [.data, .data, .data] true (true, "f6e3592946b983efc4b20f2afa4fe9218bb9c09baad4700f4cb3e8a727129870") false
    over (fun _ h => by cases h) (by kernel_rfl) (fun _ h => by cases h) fnExactFormatAtlas_row_tie rfl ⟨rfl, rfl⟩ (by kernel_rfl) rfl
    (fun f fn hf hfn => by
      obtain rfl : f = 3 := Option.some.inj ((show Tryd.prog.funcNamed "loop.example/g03005/laws.FnExactFormatAtlas" = some 3 by kernel_rfl).symm.trans hf) |>.symm
      obtain rfl : fn = Tryd.f3 := (Option.some.inj (Tryd.func3.symm.trans hfn)).symm
      exact ⟨by kernel_rfl, fun j t ht => by
        rw [Tryd.params3] at ht
        have hm : t ∈ [28] := by simpa using Array.mem_of_getElem? ht
        have hall : ([28].all fun u => !Tryd.prog.wantsStandIn u) = true := by kernel_rfl
        exact (show Tryd.prog.wantsStandIn t = false by simpa using List.all_eq_true.1 hall t hm)⟩)
    (by kernel_rfl)
#print axioms card
end Go.Proofs.YtljdhhkebebhfaaDoor.fnExactFormatAtlas
namespace Go.Proofs.YtljdhhkebebhfaaDoor
/-- The card, under a short name, for the claim. -/
theorem fnExactFormatAtlas_holds : Rows.FnExactFormatAtlasCardSaid := fnExactFormatAtlas.card
end Go.Proofs.YtljdhhkebebhfaaDoor
