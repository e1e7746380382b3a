/- Part A of the walk over abstract states and of the functions' walks. -/
import Derived.Test.YtacbpfbelcdeiaaWkStep
import Derived.Test.YtacbpfbelcdeiaaWkMark
/- The walks of the clones. -/
namespace Go.Proofs.Ytacbpfbelcdeiaa.Abs
open Go.Proofs Go.RowKit
set_option linter.unusedVariables false
set_option linter.unusedSimpArgs false
attribute [local irreducible] OpA AL AW DL DLM DLR DLS QOp POp VCalls VCallsI
set_option maxRecDepth 100000 in
set_option maxHeartbeats 2000000 in
theorem clonePoint (l : List TPoint) (hl : l.length ≤ 1048576) : VCalls Try.prog 45 [.ro 2 (l.map TPoint.en)] (fun r M => r = .own 0 0 ∧ M = [some ⟨39, 2, 0, false, l.map TPoint.en⟩]) := by
  refine VCalls.body Try.func45 rfl 7 rfl (fun E => ?_)
  simp only [List.reduceReplicate, List.cons_append, List.nil_append]
  have hclo : Clo (.ro 2 (l.map TPoint.en)) := clo_list TPoint.clo_en
  repeat' ((first
    | ((with_reducible show AL _ _ _ _ _ _ _); first | refine AL.any ?_ | refine AL.nil ?_)
    | ((with_reducible show AW _ _ _ _ _ _); first | (refine AW.adoptRet (t := 2) 39 2 rfl Adopt.nil ?_) | refine AW.seq ?_ | refine AW.region ?_ | refine AW.skip ?_ | refine AW.cT ?_ | refine AW.cF ?_ | (refine AW.c2 ?_ ?_ <;> (intro h; try simp only [Bool.not_eq_true', Bool.not_eq_false'] at h)) | refine AW.block ?_ | refine AW.exit ?_ | refine AW.ret ?_)
    | ((refine AL.isnil (by rfl) (by rfl) (TT_ok.sl _ _ (by rfl)) (by rfl) (fun bn hbn => ?_)); dsimp only [sh0_own, sh0_c, sh1_own, sh1_c, sh1_agg, shA_own, shA_c, shA_agg, shA_tup, dput, List.set, cond_true, cond_false, Nat.zero_add, Nat.add_zero, Nat.reduceAdd, splice, List.take, List.drop, List.length, List.nil_append, List.cons_append, List.append, TPoint.en, TSegment.en, TBox.en, TFeature.en, TMeet.en, TPlace.en, TCover.en, TLabel.en, TPiece.en, TLevel.en, TChart.en, TReason.en, TEdit.en, TEntry.en, TEdition.en, TListing.en, TAtlas.en, TEvent.en, TWindow.en])
    | with_reducible refine (if_pos rfl).mpr ?_
    | with_reducible refine (if_neg (by decide)).mpr ?_) <;> (try dsimp only))
  all_goals exact Fin.rows1 [0] rfl (RV.tmp (by rfl)) (by decide) (by repeat' (first | exact trivial | refine ⟨⟨_, rfl, ?_⟩, ?_⟩ | exact DCl.b rfl | exact DCl.map (fun _ => rfl))) (by repeat' (first | exact all_nil | refine all_cons ?_ ?_ | exact ⟨⟨_, rfl, rfl⟩, rfl⟩ | (show Clo _; exact clo_of (by rfl)))) ⟨rfl, by first | rfl | (rw [hbn (by assumption)] <;> rfl)⟩

set_option maxRecDepth 100000 in
set_option maxHeartbeats 2000000 in
theorem cloneF (x : TFeature) (hs : x.sm) : VCalls Try.prog 23 [.agg x.en] (fun r M => r = .agg x.eo ∧ M = x.rw) := by
  refine VCalls.body Try.func23 rfl 7 rfl (fun E => ?_)
  simp only [List.reduceReplicate, List.cons_append, List.nil_append]
  have hclo0 : Clo (.ro 2 (x.points.map TPoint.en)) := clo_list TPoint.clo_en
  have hcle : Clo (.agg x.en) := Clo.agg x.clo_en
  have hsl : x.points.length ≤ 1048576 := hs
  dsimp only [TFeature.en]
  repeat' ((first
    | ((with_reducible show AL _ _ _ _ _ _ _); first | refine AL.any ?_ | refine AL.any (h := POp.O Try.func45 (hc := clonePoint _ (by assumption))) ?_ | refine AL.nil ?_)
    | ((with_reducible show AW _ _ _ _ _ _); first | refine AW.seq ?_ | refine AW.region ?_ | refine AW.skip ?_ | refine AW.block ?_ | refine AW.exit ?_ | refine AW.ret ?_)
    | with_reducible refine (if_pos rfl).mpr ?_
    | with_reducible refine (if_neg (by decide)).mpr ?_) <;> (try dsimp only))
  all_goals exact Fin.rows1 [2] rfl (RV.cell (QOp.quietA TT_ok (by rfl))) (by decide) (by repeat' (first | exact trivial | refine ⟨⟨_, rfl, ?_⟩, ?_⟩ | exact DCl.b rfl | exact DCl.map (fun _ => rfl))) (by repeat' (first | exact all_nil | refine all_cons ?_ ?_ | exact ⟨⟨_, rfl, rfl⟩, rfl⟩ | (show Clo _; exact clo_of (by rfl)))) ⟨rfl, rfl⟩

set_option maxRecDepth 100000 in
set_option maxHeartbeats 2000000 in
theorem cloneF_s (x : TFeature) (hs : x.sm) : VCalls Try.prog 21 [.agg x.en] (fun r M => r = .agg x.eo ∧ M = x.rw) := by
  refine VCalls.body Try.func21 rfl 8 rfl (fun E => ?_)
  simp only [List.reduceReplicate, List.cons_append, List.nil_append]
  have hclo0 : Clo (.ro 2 (x.points.map TPoint.en)) := clo_list TPoint.clo_en
  have hcle : Clo (.agg x.en) := Clo.agg x.clo_en
  have hsl : x.points.length ≤ 1048576 := hs
  dsimp only [TFeature.en]
  repeat' ((first
    | ((with_reducible show AL _ _ _ _ _ _ _); first | refine AL.any ?_ | refine AL.nil ?_)
    | ((with_reducible show AW _ _ _ _ _ _); first | refine AW.seq ?_ | refine AW.region ?_ | refine AW.skip ?_ | refine AW.block ?_ | refine AW.exit ?_ | refine AW.ret ?_)
    | with_reducible refine (if_pos rfl).mpr ?_
    | with_reducible refine (if_neg (by decide)).mpr ?_) <;> (try dsimp only))
  all_goals exact Fin.rows1 [2] rfl (RV.cell (QOp.quietA TT_ok (by rfl))) (by decide) (by repeat' (first | exact trivial | refine ⟨⟨_, rfl, ?_⟩, ?_⟩ | exact DCl.b rfl | exact DCl.map (fun _ => rfl))) (by repeat' (first | exact all_nil | refine all_cons ?_ ?_ | exact ⟨⟨_, rfl, rfl⟩, rfl⟩ | (show Clo _; exact clo_of (by rfl)))) ⟨rfl, rfl⟩

theorem cloneF_s' (x : TFeature) (hs : x.sm) : VCalls Try.prog 21 [.agg x.en] (fun r M => r = .agg x.en ∧ M = []) := VCalls.frz (cloneF_s x hs) (by repeat' (first | exact VwL.nil | refine VwL.cons ?_ ?_ | (refine View.own (by rfl) (by rfl) (by rfl) (by rfl) ?_ ?_ <;> first | exact DCl.b rfl | exact DCl.map (fun _ => rfl) | assumption | rfl | exact TPoint.und | exact TSegment.und | exact TBox.und | exact TFeature.und | exact TMeet.und | exact TPlace.und | exact TCover.und | exact TLabel.und | exact TPiece.und | exact TLevel.und | exact TChart.und | exact TReason.und | exact TEdit.und | exact TEntry.und | exact TEdition.und | exact TListing.und | exact TAtlas.und | exact TEvent.und | exact TWindow.und | exact und_nil | exact und_I | assumption) | refine View.agg' ?_ | exact View.same (by first | exact clo_of (by rfl) | assumption | exact clo_fn _) | exact View.nil))
end Go.Proofs.Ytacbpfbelcdeiaa.Abs

/- The walks of PutAll. -/
namespace Go.Proofs.Ytacbpfbelcdeiaa.Abs
open Go.Proofs Go.RowKit
set_option linter.unusedVariables false
set_option linter.unusedSimpArgs false
attribute [local irreducible] OpA AL AW DL DLM DLR DLS QOp POp VCalls VCallsI
def putE (who : Int) (f : TFeature) : TEvent := ⟨1, f, 0, who, [], [], ⟨#[]⟩⟩
def putOf (l : List TFeature) (who : Int) : List TEvent := l.map (putE who)
theorem put_take {l : List TFeature} {who : Int} {i : Nat} {x : TFeature} (h : l[i]? = some x) : ((putOf l who).take (i + 1)).map TEvent.ed = ((putOf l who).take i).map TEvent.ed ++ [(putE who x).ed] := by
  rw [take_succ_of (show (putOf l who)[i]? = some (putE who x) by rw [putOf, List.getElem?_map, h]; rfl), List.map_append]
  rfl
theorem put_take' {l : List TFeature} {who : Int} {i : Nat} {x : TFeature} (h : l[i]? = some x) : ((putOf l who).take (i + 1)).map TEvent.en = ((putOf l who).take i).map TEvent.en ++ [(putE who x).en] := by
  rw [take_succ_of (show (putOf l who)[i]? = some (putE who x) by rw [putOf, List.getElem?_map, h]; rfl), List.map_append]
  rfl
theorem put_len (l : List TFeature) (who : Int) (i : Nat) : ((putOf l who).take i).length ≤ i := by rw [List.length_take]; omega
theorem put_all (l : List TFeature) (who : Int) : (putOf l who).take l.length = putOf l who := by
  have e : l.length = (putOf l who).length := by simp [putOf]
  rw [e, List.take_length]
theorem put_sm {l : List TFeature} {who : Int} (h : ∀ x ∈ l, x.sm) : ∀ x ∈ (putOf l who), x.sm := fun x hx => by
  obtain ⟨f, hf, rfl⟩ := List.mem_map.1 hx
  have h1 := h f hf
  simp only [TEvent.sm, putE]
  exact ⟨h1, ⟨by simp, fun y hy => by simp at hy⟩, by simp⟩
theorem ctL_put {l : List TFeature} {who : Int} (hl : l.length ≤ 1048576) (hp : ∀ x ∈ l, x.points.length ≤ 1048576) : ctL TEvent.ct (putOf l who) ≤ 2199031644160 := by
  have h := ctL_bd (ct := TEvent.ct) (c := 2097160) (l := putOf l who) fun x hx => by
    obtain ⟨f, hf, rfl⟩ := List.mem_map.1 hx
    have h1 := ctL_pt f.points
    have h2 := hp f hf
    have e1 : ctL TEntry.ct (putE who f).log = 0 := rfl
    have e2 : ctL TLevel.ct (putE who f).levels = 0 := rfl
    have e3 : (putE who f).feature.points = f.points := rfl
    unfold TEvent.ct
    rw [e1, e2, e3]
    omega
  have e : (putOf l who).length = l.length := by simp [putOf]
  rw [e] at h
  omega
set_option maxRecDepth 100000 in
set_option maxHeartbeats 2000000 in
theorem put_i (l : List TFeature) (who : Int) (hl : l.length ≤ 1048576) (hp : ∀ x ∈ l, x.sm) : VCalls Try.prog 8 [.ro 5 (l.map TFeature.en), I who] (fun r M => r = .own 0 0 ∧ M = [some ⟨57, 11, 0, false, (putOf l who).map TEvent.ed⟩]) := by
  refine VCalls.bodyE Try.func8 rfl 22 rfl (fun E hE => ?_)
  simp only [List.reduceReplicate, List.cons_append, List.nil_append]
  have hclo : Clo (.ro 5 (l.map TFeature.en)) := clo_list TFeature.clo_en
  repeat' ((first
    | ((with_reducible show AL _ _ _ _ _ _ _); first | refine AL.any (h := POp.gh POp.mk (Gh.trans (Gh.absorbA (q := 0) (id := 2) (j := 5) rfl rfl rfl rfl rfl rfl (DCl.map (fun _ => rfl)) TPoint.und) (Gh.trans (Gh.nilA (q := 0) (j := 8) (sz2 := 8) rfl rfl) (Gh.nilA (q := 0) (j := 9) (sz2 := 3) rfl rfl)))) ?_ | refine AL.any ?_ | refine AL.any (h := POp.O Try.func23 (hc := cloneF x (by assumption))) ?_ | refine AL.nil ?_)
    | ((with_reducible show AW _ _ _ _ _ _); first | refine AW.seq ?_ | refine AW.region ?_ | refine AW.skip ?_ | (refine AW.loopD hE (fun i : Nat => [.any, I who, .any, .any, .any, .own 0 i, .any, .any, .any, .ro 5 (l.map TFeature.en), I ((l.map TFeature.en).length : Int), I (i : Int), .any, .any, .any, .any, .any, .any, .any, .any, .any, .any, .any, .any]) (fun i => [some ⟨57, 11, i, false, ((putOf l who).take i).map TEvent.ed⟩]) (fun i => l.length - i) (fun i => i ≤ l.length) 0 (by simp) ?_ (by first | rfl | (simp [fil_zero]; done)) ?_) | refine AW.cT ?_ | refine AW.cF ?_ | (refine AW.c2 ?_ ?_ <;> (intro h; try simp only [Bool.not_eq_true', Bool.not_eq_false'] at h)) | refine AW.block ?_ | refine AW.exit ?_ | refine AW.ret ?_)
    | with_reducible refine (if_pos rfl).mpr ?_
    | with_reducible refine (if_neg (by decide)).mpr ?_) <;> (try dsimp only))
  · (repeat' (first | exact Wk.nil | refine Wk.any ?_ | (with_reducible refine Wk.same ?_) | refine Wk.of ?_ ?_)) <;> first | rfl | (rfl)
  · intro i hi
    have hclo : Clo (.ro 5 (l.map TFeature.en)) := clo_list TFeature.clo_en
    by_cases hlt : i < l.length
    · obtain ⟨x, hx⟩ : ∃ x, l[i]? = some x := ⟨_, List.getElem?_eq_getElem hlt⟩
      have hg := map_get (f := TFeature.en) hx
      have ht := lt_true (f := TFeature.en) hlt
      have hn := next_ix hlt (by omega)
      have hpx := hp x (List.mem_of_getElem? hx)
      have hm := put_take (who := who) hx
      have hm' := put_take' (who := who) hx
      have hln := put_len l who i
      have hclP : Clo (.ro 2 (x.points.map TPoint.en)) := clo_list TPoint.clo_en
      have hcle : Clo (.agg x.en) := Clo.agg x.clo_en
      repeat' ((first
        | ((with_reducible show AL _ _ _ _ _ _ _); first | refine AL.any (h := POp.gh POp.mk (Gh.trans (Gh.absorbA (q := 0) (id := 2) (j := 5) rfl rfl rfl rfl rfl rfl (DCl.map (fun _ => rfl)) TPoint.und) (Gh.trans (Gh.nilA (q := 0) (j := 8) (sz2 := 8) rfl rfl) (Gh.nilA (q := 0) (j := 9) (sz2 := 3) rfl rfl)))) ?_ | refine AL.any ?_ | refine AL.any (h := POp.O Try.func23 (hc := cloneF x (by assumption))) ?_ | refine AL.nil ?_)
        | ((with_reducible show AW _ _ _ _ _ _); first | refine AW.seq ?_ | refine AW.region ?_ | refine AW.skip ?_ | refine AW.cT ?_ | refine AW.cF ?_ | (refine AW.c2 ?_ ?_ <;> (intro h; try simp only [Bool.not_eq_true', Bool.not_eq_false'] at h)) | refine AW.block ?_ | refine AW.exit ?_ | refine AW.ret ?_)
        | with_reducible refine (if_pos rfl).mpr ?_
        | with_reducible refine (if_neg (by decide)).mpr ?_) <;> (try dsimp only))
      all_goals first
        | (refine ⟨i + 1, _, hlt, by omega, ?_, by rw [hm] <;> rfl, ?_, ?_⟩; (focus ((repeat' (first | exact Wk.nil | refine Wk.any ?_ | (with_reducible refine Wk.same ?_) | refine Wk.of ?_ ?_)) <;> (simp_all))); (focus ((repeat' (first | exact Fits.nil _ | refine Fits.cons ?_ ?_ | exact Fits.any _ | exact Fits.c _ _ | exact Fits.own (by rfl) | exact Fits.ref (by rfl) | exact Fits.clo (by assumption) | exact Fits.clo (clo_of (by rfl)) | exact Fits.clo (clo_fn _))))); (focus (exact fits_dcl (DCl.map (fun _ => rfl)))))
    · have ht := lt_false (f := TFeature.en) hlt
      have e : i = l.length := by omega
      subst e
      try rw [List.take_length]
      repeat' ((first
        | ((with_reducible show AL _ _ _ _ _ _ _); first | refine AL.any (h := POp.gh POp.mk (Gh.trans (Gh.absorbA (q := 0) (id := 2) (j := 5) rfl rfl rfl rfl rfl rfl (DCl.map (fun _ => rfl)) TPoint.und) (Gh.trans (Gh.nilA (q := 0) (j := 8) (sz2 := 8) rfl rfl) (Gh.nilA (q := 0) (j := 9) (sz2 := 3) rfl rfl)))) ?_ | refine AL.any ?_ | refine AL.any (h := POp.O Try.func23 (hc := cloneF x (by assumption))) ?_ | refine AL.nil ?_)
        | ((with_reducible show AW _ _ _ _ _ _); first | refine AW.seq ?_ | refine AW.region ?_ | refine AW.skip ?_ | refine AW.cT ?_ | refine AW.cF ?_ | (refine AW.c2 ?_ ?_ <;> (intro h; try simp only [Bool.not_eq_true', Bool.not_eq_false'] at h)) | refine AW.block ?_ | refine AW.exit ?_ | refine AW.ret ?_)
        | with_reducible refine (if_pos rfl).mpr ?_
        | with_reducible refine (if_neg (by decide)).mpr ?_) <;> (try dsimp only))
      all_goals (simp only [put_all]; exact Fin.rows1 [0] rfl (RV.tmp (by rfl)) (by decide) (by repeat' (first | exact trivial | refine ⟨⟨_, rfl, ?_⟩, ?_⟩ | exact DCl.b rfl | exact DCl.map (fun _ => rfl))) (by repeat' (first | exact all_nil | refine all_cons ?_ ?_ | exact ⟨⟨_, rfl, rfl⟩, rfl⟩ | (show Clo _; exact clo_of (by rfl)))) ⟨rfl, rfl⟩)

theorem put_i' (l : List TFeature) (who : Int) (hl : l.length ≤ 1048576) (hp : ∀ x ∈ l, x.sm) : VCalls Try.prog 8 [.ro 5 (l.map TFeature.en), I who] (fun r M => r = .ro 11 ((putOf l who).map TEvent.en) ∧ M = []) := VCalls.frz (put_i l who hl hp) (by repeat' (first | exact VwL.nil | refine VwL.cons ?_ ?_ | (refine View.own (by rfl) (by rfl) (by rfl) (by rfl) ?_ ?_ <;> first | exact DCl.b rfl | exact DCl.map (fun _ => rfl) | assumption | rfl | exact TPoint.und | exact TSegment.und | exact TBox.und | exact TFeature.und | exact TMeet.und | exact TPlace.und | exact TCover.und | exact TLabel.und | exact TPiece.und | exact TLevel.und | exact TChart.und | exact TReason.und | exact TEdit.und | exact TEntry.und | exact TEdition.und | exact TListing.und | exact TAtlas.und | exact TEvent.und | exact TWindow.und | exact und_nil | exact und_I | assumption) | refine View.agg' ?_ | exact View.same (by first | exact clo_of (by rfl) | assumption | exact clo_fn _) | exact View.nil))
set_option maxRecDepth 100000 in
set_option maxHeartbeats 2000000 in
theorem put_s (l : List TFeature) (who : Int) (hl : l.length ≤ 1048576) (hp : ∀ x ∈ l, x.sm) : VCalls Try.prog 6 [.ro 5 (l.map TFeature.en), I who] (fun r M => r = .own 0 0 ∧ M = [some ⟨57, 11, 0, false, (putOf l who).map TEvent.ed⟩]) := by
  refine VCalls.bodyE Try.func6 rfl 23 rfl (fun E hE => ?_)
  simp only [List.reduceReplicate, List.cons_append, List.nil_append]
  have hclo : Clo (.ro 5 (l.map TFeature.en)) := clo_list TFeature.clo_en
  repeat' ((first
    | ((with_reducible show AL _ _ _ _ _ _ _); first | refine AL.any (h := POp.gh POp.mk (Gh.trans (Gh.absorbA (q := 0) (id := 1) (j := 5) rfl rfl rfl rfl rfl rfl (DCl.map (fun _ => rfl)) TPoint.und) (Gh.trans (Gh.nilA (q := 0) (j := 8) (sz2 := 8) rfl rfl) (Gh.nilA (q := 0) (j := 9) (sz2 := 3) rfl rfl)))) ?_ | refine AL.any ?_ | refine AL.any (h := POp.O Try.func21 (hc := cloneF_s x (by assumption))) ?_ | refine AL.nil ?_)
    | ((with_reducible show AW _ _ _ _ _ _); first | refine AW.seq ?_ | refine AW.region ?_ | refine AW.skip ?_ | (refine AW.loopD hE (fun i : Nat => [.ro 5 (l.map TFeature.en), I who, .any, .any, .any, .own 0 i, I (i : Int), .any, .any, .any, .any, .any, .any, .any, .any, .any, .any, .any, .any, .any, .any, .any, .any, .any, .any]) (fun i => [some ⟨57, 11, i, false, ((putOf l who).take i).map TEvent.ed⟩]) (fun i => l.length - i) (fun i => i ≤ l.length) 0 (by simp) ?_ (by first | rfl | (simp [fil_zero]; done)) ?_) | refine AW.cT ?_ | refine AW.cF ?_ | (refine AW.c2 ?_ ?_ <;> (intro h; try simp only [Bool.not_eq_true', Bool.not_eq_false'] at h)) | refine AW.block ?_ | refine AW.exit ?_ | refine AW.ret ?_)
    | with_reducible refine (if_pos rfl).mpr ?_
    | with_reducible refine (if_neg (by decide)).mpr ?_) <;> (try dsimp only))
  · (repeat' (first | exact Wk.nil | refine Wk.any ?_ | (with_reducible refine Wk.same ?_) | refine Wk.of ?_ ?_)) <;> first | rfl | (rfl)
  · intro i hi
    have hclo : Clo (.ro 5 (l.map TFeature.en)) := clo_list TFeature.clo_en
    by_cases hlt : i < l.length
    · obtain ⟨x, hx⟩ : ∃ x, l[i]? = some x := ⟨_, List.getElem?_eq_getElem hlt⟩
      have hg := map_get (f := TFeature.en) hx
      have ht := lt_true (f := TFeature.en) hlt
      have hn := next_ix hlt (by omega)
      have hpx := hp x (List.mem_of_getElem? hx)
      have hm := put_take (who := who) hx
      have hm' := put_take' (who := who) hx
      have hln := put_len l who i
      have hclP : Clo (.ro 2 (x.points.map TPoint.en)) := clo_list TPoint.clo_en
      have hcle : Clo (.agg x.en) := Clo.agg x.clo_en
      repeat' ((first
        | ((with_reducible show AL _ _ _ _ _ _ _); first | refine AL.any (h := POp.gh POp.mk (Gh.trans (Gh.absorbA (q := 0) (id := 1) (j := 5) rfl rfl rfl rfl rfl rfl (DCl.map (fun _ => rfl)) TPoint.und) (Gh.trans (Gh.nilA (q := 0) (j := 8) (sz2 := 8) rfl rfl) (Gh.nilA (q := 0) (j := 9) (sz2 := 3) rfl rfl)))) ?_ | refine AL.any ?_ | refine AL.any (h := POp.O Try.func21 (hc := cloneF_s x (by assumption))) ?_ | refine AL.nil ?_)
        | ((with_reducible show AW _ _ _ _ _ _); first | refine AW.seq ?_ | refine AW.region ?_ | refine AW.skip ?_ | refine AW.cT ?_ | refine AW.cF ?_ | (refine AW.c2 ?_ ?_ <;> (intro h; try simp only [Bool.not_eq_true', Bool.not_eq_false'] at h)) | refine AW.block ?_ | refine AW.exit ?_ | refine AW.ret ?_)
        | with_reducible refine (if_pos rfl).mpr ?_
        | with_reducible refine (if_neg (by decide)).mpr ?_) <;> (try dsimp only))
      all_goals first
        | (refine ⟨i + 1, _, hlt, by omega, ?_, by rw [hm] <;> rfl, ?_, ?_⟩; (focus ((repeat' (first | exact Wk.nil | refine Wk.any ?_ | (with_reducible refine Wk.same ?_) | refine Wk.of ?_ ?_)) <;> (simp_all))); (focus ((repeat' (first | exact Fits.nil _ | refine Fits.cons ?_ ?_ | exact Fits.any _ | exact Fits.c _ _ | exact Fits.own (by rfl) | exact Fits.ref (by rfl) | exact Fits.clo (by assumption) | exact Fits.clo (clo_of (by rfl)) | exact Fits.clo (clo_fn _))))); (focus (exact fits_dcl (DCl.map (fun _ => rfl)))))
    · have ht := lt_false (f := TFeature.en) hlt
      have e : i = l.length := by omega
      subst e
      try rw [List.take_length]
      repeat' ((first
        | ((with_reducible show AL _ _ _ _ _ _ _); first | refine AL.any (h := POp.gh POp.mk (Gh.trans (Gh.absorbA (q := 0) (id := 1) (j := 5) rfl rfl rfl rfl rfl rfl (DCl.map (fun _ => rfl)) TPoint.und) (Gh.trans (Gh.nilA (q := 0) (j := 8) (sz2 := 8) rfl rfl) (Gh.nilA (q := 0) (j := 9) (sz2 := 3) rfl rfl)))) ?_ | refine AL.any ?_ | refine AL.any (h := POp.O Try.func21 (hc := cloneF_s x (by assumption))) ?_ | refine AL.nil ?_)
        | ((with_reducible show AW _ _ _ _ _ _); first | refine AW.seq ?_ | refine AW.region ?_ | refine AW.skip ?_ | refine AW.cT ?_ | refine AW.cF ?_ | (refine AW.c2 ?_ ?_ <;> (intro h; try simp only [Bool.not_eq_true', Bool.not_eq_false'] at h)) | refine AW.block ?_ | refine AW.exit ?_ | refine AW.ret ?_)
        | with_reducible refine (if_pos rfl).mpr ?_
        | with_reducible refine (if_neg (by decide)).mpr ?_) <;> (try dsimp only))
      all_goals (simp only [put_all]; exact Fin.rows1 [0] rfl (RV.tmp (by rfl)) (by decide) (by repeat' (first | exact trivial | refine ⟨⟨_, rfl, ?_⟩, ?_⟩ | exact DCl.b rfl | exact DCl.map (fun _ => rfl))) (by repeat' (first | exact all_nil | refine all_cons ?_ ?_ | exact ⟨⟨_, rfl, rfl⟩, rfl⟩ | (show Clo _; exact clo_of (by rfl)))) ⟨rfl, rfl⟩)

theorem put_s' (l : List TFeature) (who : Int) (hl : l.length ≤ 1048576) (hp : ∀ x ∈ l, x.sm) : VCalls Try.prog 6 [.ro 5 (l.map TFeature.en), I who] (fun r M => r = .ro 11 ((putOf l who).map TEvent.en) ∧ M = []) := VCalls.frz (put_s l who hl hp) (by repeat' (first | exact VwL.nil | refine VwL.cons ?_ ?_ | (refine View.own (by rfl) (by rfl) (by rfl) (by rfl) ?_ ?_ <;> first | exact DCl.b rfl | exact DCl.map (fun _ => rfl) | assumption | rfl | exact TPoint.und | exact TSegment.und | exact TBox.und | exact TFeature.und | exact TMeet.und | exact TPlace.und | exact TCover.und | exact TLabel.und | exact TPiece.und | exact TLevel.und | exact TChart.und | exact TReason.und | exact TEdit.und | exact TEntry.und | exact TEdition.und | exact TListing.und | exact TAtlas.und | exact TEvent.und | exact TWindow.und | exact und_nil | exact und_I | assumption) | refine View.agg' ?_ | exact View.same (by first | exact clo_of (by rfl) | assumption | exact clo_fn _) | exact View.nil))
end Go.Proofs.Ytacbpfbelcdeiaa.Abs

/- The walk of the law on PutAll. -/
namespace Go.Proofs.Ytacbpfbelcdeiaa.Abs
open Go.Proofs Go.RowKit
set_option linter.unusedVariables false
set_option linter.unusedSimpArgs false
attribute [local irreducible] OpA AL AW DL DLM DLR DLS QOp POp VCalls VCallsI
set_option maxRecDepth 100000 in
set_option maxHeartbeats 2000000 in
theorem law_FnExactPutAll (l : List TFeature) (who : Int) (h0 : (l.length ≤ maxLen ∧ ∀ x ∈ l, x.ok)) (h1 : i64 who) : VCalls Try.prog 3 [.ro 5 (l.map TFeature.en), I who] (fun r M => r = B true ∧ M = []) := by
  refine VCalls.body Try.func3 rfl 72 rfl (fun E => ?_)
  simp only [List.reduceReplicate, List.cons_append, List.nil_append]
  have hclo_l : Clo (.ro 5 (l.map TFeature.en)) := clo_list TFeature.clo_en
  obtain ⟨hl0, hp0⟩ := id h0
  rw [maxLen_eq] at hl0
  have hsl : (putOf l who).length = l.length := by simp [putOf]
  have hclI : Clo (.ro 11 ((putOf l who).map TEvent.en)) := clo_list TEvent.clo_en
  rcases Szs.split (TFeature.szs.list) l 1048576 h0 (by decide) (by decide) with hz | ⟨hz, ⟨hl0', hp0'⟩, hz0, hz1⟩
  all_goals try (have hlI : (putOf l who).length ≤ 1048576 := by omega)
  all_goals try (have hpI : ∀ x ∈ (putOf l who), x.sm := put_sm hp0')
  all_goals try (have hcf := ctL_ft hl0' (fun x hx => hp0' x hx))
  all_goals try (have hcg := ctL_put (who := who) hl0' (fun x hx => hp0' x hx))
  all_goals try (have hk1 : decide (1 + ((ctL TFeature.ct l : Nat) : Int) < 0) = false := by simp; omega)
  all_goals try (have hk2 : decide (1 + ((ctL TEvent.ct (putOf l who) : Nat) : Int) < 0) = false := by simp; omega)
  repeat' ((first
    | ((with_reducible show AL _ _ _ _ _ _ _); first | refine AL.at 23 (h := POp.O Try.func7 (hc := toFeatureS_o l (by assumption) (by assumption))) ?_ | refine AL.at 26 (h := POp.O Try.func8 (hc := put_i l who (by assumption) (by assumption))) ?_ | refine AL.any ?_ | refine AL.any (h := POp.k Try.func5 (hc := szFeatureS _ _ (by assumption) (by assumption))) ?_ | refine AL.any (h := POp.k Try.func6 (hc := put_s' l who (by assumption) (by assumption))) ?_ | refine AL.any (h := POp.k Try.func7 (hc := toFeatureS _ (by assumption) (by assumption))) ?_ | refine AL.any (h := POp.k Try.func8 (hc := put_i' l who (by assumption) (by assumption))) ?_ | refine AL.any (h := POp.D Try.func9 (hc := eqEventS_self (putOf l who) (by assumption) (by assumption))) ?_ | refine AL.any (h := POp.D Try.func10 (hc := eqFeatureS_self l (by assumption) (by assumption))) ?_ | refine AL.any (h := POp.H [0] Try.func11 (hc := markFeatureS 52 l 1 (by omega) (by omega))) ?_ | refine AL.any (h := POp.H [1] Try.func12 (hc := markEventS 57 (putOf l who) 1 (by omega) (by omega))) ?_ | refine AL.any (h := POp.D Try.func13 (hc := heldEventS (putOf l who) 1 (by omega) (by omega))) ?_ | refine AL.U ?_ | refine AL.F ?_ | refine AL.T ?_ | refine AL.T (h := POp.k Try.func5 (hc := szFeatureS _ _ (by assumption) (by assumption))) ?_ | refine AL.T (h := POp.k Try.func6 (hc := put_s' l who (by assumption) (by assumption))) ?_ | refine AL.T (h := POp.k Try.func7 (hc := toFeatureS _ (by assumption) (by assumption))) ?_ | refine AL.T (h := POp.k Try.func8 (hc := put_i' l who (by assumption) (by assumption))) ?_ | refine AL.T (h := POp.D Try.func9 (hc := eqEventS_self (putOf l who) (by assumption) (by assumption))) ?_ | refine AL.T (h := POp.D Try.func10 (hc := eqFeatureS_self l (by assumption) (by assumption))) ?_ | refine AL.T (h := POp.H [0] Try.func11 (hc := markFeatureS 52 l 1 (by omega) (by omega))) ?_ | refine AL.T (h := POp.H [1] Try.func12 (hc := markEventS 57 (putOf l who) 1 (by omega) (by omega))) ?_ | refine AL.T (h := POp.D Try.func13 (hc := heldEventS (putOf l who) 1 (by omega) (by omega))) ?_ | refine AL.W ?_ | refine AL.W (h := fun h => by (try rw [h]); exact POp.k Try.func5 (hc := szFeatureS _ _ (by assumption) (by assumption))) ?_ | refine AL.W (h := fun h => by (try rw [h]); exact POp.k Try.func6 (hc := put_s' l who (by assumption) (by assumption))) ?_ | refine AL.W (h := fun h => by (try rw [h]); exact POp.k Try.func7 (hc := toFeatureS _ (by assumption) (by assumption))) ?_ | refine AL.W (h := fun h => by (try rw [h]); exact POp.k Try.func8 (hc := put_i' l who (by assumption) (by assumption))) ?_ | refine AL.W (h := fun h => by (try rw [h]); exact POp.D Try.func9 (hc := eqEventS_self (putOf l who) (by assumption) (by assumption))) ?_ | refine AL.W (h := fun h => by (try rw [h]); exact POp.D Try.func10 (hc := eqFeatureS_self l (by assumption) (by assumption))) ?_ | refine AL.W (h := fun h => by (try rw [h]); exact POp.H [0] Try.func11 (hc := markFeatureS 52 l 1 (by omega) (by omega))) ?_ | refine AL.W (h := fun h => by (try rw [h]); exact POp.H [1] Try.func12 (hc := markEventS 57 (putOf l who) 1 (by omega) (by omega))) ?_ | refine AL.W (h := fun h => by (try rw [h]); exact POp.D Try.func13 (hc := heldEventS (putOf l who) 1 (by omega) (by omega))) ?_ | refine AL.nil ?_)
    | ((with_reducible show AW _ _ _ _ _ _); first | refine AW.seq ?_ | refine AW.region ?_ | refine AW.skip ?_ | refine AW.cT ?_ | refine AW.cF ?_ | (refine AW.c2 ?_ ?_ <;> (intro h; try simp only [Bool.not_eq_true', Bool.not_eq_false'] at h)) | refine AW.block ?_ | refine AW.exit ?_ | refine AW.ret ?_)
    | with_reducible refine (if_pos rfl).mpr ?_
    | with_reducible refine (if_neg (by decide)).mpr ?_) <;> (try dsimp only))
  all_goals exact Fin.one rfl (RV.tmp (by rfl)) (clo_c _) ⟨by first | rfl | (simp_all; done), rfl⟩

end Go.Proofs.Ytacbpfbelcdeiaa.Abs
