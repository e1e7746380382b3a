/- Part H of the walk over abstract states and of the functions' walks. -/
import Derived.Test.YtacbpfbelcdeiaaGreatWkStep
import Derived.Test.YtacbpfbelcdeiaaGreatBnF
/- The walks of RunEvents. -/
namespace Go.Proofs.YtacbpfbelcdeiaaGreat.Abs
open Go.Proofs Go.RowKit
set_option linter.unusedVariables false
set_option linter.unusedSimpArgs false
set_option maxRecDepth 100000
set_option maxHeartbeats 2000000
attribute [local irreducible] OpA AL AW DL DLM DLR DLS QOp POp VCalls VCallsI
def evStep (a : TAtlas) (e : TEvent) : TAtlas := stp a (apO a e).1 (apO a e).2
def runTo (a : TAtlas) (l : List TEvent) (i : Nat) : TAtlas := (l.take i).foldl evStep a
def runR (a : TAtlas) (l : List TEvent) : TAtlas := runTo a l l.length
theorem runTo_succ {a : TAtlas} {l : List TEvent} {i : Nat} {x : TEvent} (h : l[i]? = some x) : runTo a l (i + 1) = stp (runTo a l i) (apO (runTo a l i) x).1 (apO (runTo a l i) x).2 := by
  unfold runTo
  rw [take_succ_of h, List.foldl_append]
  rfl
theorem foldV {p : TAtlas → Prop} {q : TEvent → Prop} (hs : ∀ a e, p a → q e → p (apO a e).1) : ∀ (l : List TEvent) (a : TAtlas), p a → (∀ e ∈ l, q e) → p (l.foldl evStep a)
  | [], a, ha, _ => ha
  | e :: l, a, ha, hl => foldV hs l (evStep a e) (by unfold evStep stp; split; exact hs a e ha (hl e (List.mem_cons_self ..)); exact ha) fun x hx => hl x (List.mem_cons_of_mem _ hx)
theorem runTo_gd {a : TAtlas} {l : List TEvent} {i : Nat} (h : a.gd) (hl : ∀ e ∈ l, e.gd) : (runTo a l i).gd := foldV (p := TAtlas.gd) (q := TEvent.gd) (fun _ _ h he => apO_gd h he) _ _ h fun x hx => hl x (List.mem_of_mem_take hx)
theorem runTo_sm {a : TAtlas} {l : List TEvent} {i : Nat} (h : a.sm) (hl : ∀ e ∈ l, e.gs) : (runTo a l i).sm := foldV (p := TAtlas.sm) (q := TEvent.gs) (fun _ _ h he => apO_sm h he) _ _ h fun x hx => hl x (List.mem_of_mem_take hx)
theorem apR_i {i : Nat} {x : TEvent} (a : TAtlas) (hgd : a.gd) (l : List TEvent) (hl : l.length ≤ 1048576) (hp : ∀ e ∈ l, e.gd) (hx : l[i]? = some x) : VCalls Tryz.prog 51 [.agg [.ro 8 ((runTo a l i).log.map TEntry.en), .ro 3 ((runTo a l i).levels.map TLevel.en), .ro 3 ((runTo a l i).editions.map TEdition.en), I (runTo a l i).cover.w, I (runTo a l i).cover.h, S (runTo a l i).cover.cells, I (runTo a l i).now], .agg [I x.kind, I x.feature.id, I x.feature.kind, I x.feature.rank, S x.feature.name, .ro 2 (x.feature.points.map TPoint.en), I x.id, I x.who, .ro 8 (x.log.map TEntry.en), .ro 3 (x.levels.map TLevel.en), S x.letter]] (fun r M => r = .tup [.agg [.own 0 0, .own 1 0, .own 2 0, I (runTo a l (i + 1)).cover.w, I (runTo a l (i + 1)).cover.h, S (runTo a l (i + 1)).cover.cells, I (runTo a l (i + 1)).now], B (stpB (runTo a l i) (apO (runTo a l i) x).1 (apO (runTo a l i) x).2)] ∧ M = [some ⟨121, 8, 0, false, (runTo a l (i + 1)).log.map TEntry.ed⟩, some ⟨97, 3, 0, false, (runTo a l (i + 1)).levels.map TLevel.en⟩, some ⟨136, 3, 0, false, (runTo a l (i + 1)).editions.map TEdition.ed⟩]) := by
  rw [runTo_succ hx]
  exact ap_i (runTo a l i) (runTo_gd hgd hp) x (hp x (List.mem_of_getElem? hx))
theorem apR_s {i : Nat} {x : TEvent} (a : TAtlas) (hgd : a.gd) (l : List TEvent) (hl : l.length ≤ 1048576) (hp : ∀ e ∈ l, e.gd) (hx : l[i]? = some x) : VCalls Tryz.prog 49 [.agg [.ro 8 ((runTo a l i).log.map TEntry.en), .ro 3 ((runTo a l i).levels.map TLevel.en), .ro 3 ((runTo a l i).editions.map TEdition.en), I (runTo a l i).cover.w, I (runTo a l i).cover.h, S (runTo a l i).cover.cells, I (runTo a l i).now], .agg [I x.kind, I x.feature.id, I x.feature.kind, I x.feature.rank, S x.feature.name, .ro 2 (x.feature.points.map TPoint.en), I x.id, I x.who, .ro 8 (x.log.map TEntry.en), .ro 3 (x.levels.map TLevel.en), S x.letter]] (fun r M => r = .tup [.agg [.own 0 0, .own 1 0, .own 2 0, I (runTo a l (i + 1)).cover.w, I (runTo a l (i + 1)).cover.h, S (runTo a l (i + 1)).cover.cells, I (runTo a l (i + 1)).now], B (stpB (runTo a l i) (apO (runTo a l i) x).1 (apO (runTo a l i) x).2)] ∧ M = [some ⟨121, 8, 0, false, (runTo a l (i + 1)).log.map TEntry.ed⟩, some ⟨97, 3, 0, false, (runTo a l (i + 1)).levels.map TLevel.en⟩, some ⟨136, 3, 0, false, (runTo a l (i + 1)).editions.map TEdition.ed⟩]) := by
  rw [runTo_succ hx]
  exact ap_s (runTo a l i) (runTo_gd hgd hp) x (hp x (List.mem_of_getElem? hx))
theorem run_s (a : TAtlas) (hgd : a.gd) (l : List TEvent) (hl : l.length ≤ 1048576) (hp : ∀ e ∈ l, e.gd) : VCalls Tryz.prog 55 [.agg a.en, .ro 11 (l.map TEvent.en)] (fun r M => r = .agg (runR a l).eo ∧ M = (runR a l).rw) := by
  refine VB Tryz.func55 23 (fun E hE => ?_)
  have hgs := hgd.gs
  have hclA : Clo (.agg a.en) := Clo.agg a.clo_en
  have hclL : Clo (.ro 8 (a.log.map TEntry.en)) := clo_list TEntry.clo_en
  have hclV : Clo (.ro 3 (a.levels.map TLevel.en)) := clo_list TLevel.clo_en
  have hclE : Clo (.ro 3 (a.editions.map TEdition.en)) := clo_list TEdition.clo_en
  have hclR : Clo (.ro 11 (l.map TEvent.en)) := clo_list TEvent.clo_en
  dsimp only [TAtlas.en]
  repeat' ((first
    | (refine iAL ?_; first | refine AL.any ?_ | refine AL.any (h := POp.O Tryz.func60 (hc := cpA_sX a (by assumption))) ?_ | refine AL.nil ?_)
    | ((with_reducible show DL ..); first | refine DL.any ?_ | refine DL.any (h := POp.O Tryz.func49 (hc := apR_s a hgd l hl hp hx)) ?_ | refine DL.nil ?_)
    | (refine iAW ?_; first | (refine AW.c0 ?_; constructor) | (refine' AW.drT (id := 5) 10 5 9 31 255 _ _ ?_) | refine AW.cT ?_ | refine AW.cF ?_ | (refine AW.c2 ?_ ?_ <;> (intro h; try simp only [bT, bF] at h)))
    | ((with_reducible show D2 ..); first | refine D2.f1 ?_ | refine D2.s1 (h := POp.O Tryz.func49 (hc := apR_s a hgd l hl hp hx)) ?_ | refine D2.f2 ?_ | refine D2.s2 (h := POp.gh POp.mk (Gh.trans (Gh.reown (q := 5) (id := 2) (id2 := 6) (i := 0) (j := 0) rfl rfl rfl rfl rfl rfl rfl rfl rfl (by first | exact DCl.map (fun _ => rfl))) (Gh.trans (Gh.reown (q := 5) (id := 3) (id2 := 7) (i := 0) (j := 1) rfl rfl rfl rfl rfl rfl rfl rfl rfl (by first | exact DCl.map (fun _ => rfl))) (Gh.reown (q := 5) (id := 4) (id2 := 8) (i := 0) (j := 2) rfl rfl rfl rfl rfl rfl rfl rfl rfl (by first | exact DCl.map (fun _ => rfl)))))) ?_ | refine D2.q ?_ | refine D2.nil ?_)
    | (refine AW.loopD hE (fun i : Nat => [.any, .ro 11 (l.map TEvent.en), .ref 0 0 7 0 0, .any, .ref 1 0 7 0 0, .ref 5 0 7 0 0, I (i : Int), .any, .any, .any, .any, .any, .any, .any, .any, .any, .any, .any, .any, .any, .any, .any, .any, .any, .any]) (fun i => [some ⟨32, 7, 0, true, [[.ro 8 (a.log.map TEntry.en), .ro 3 (a.levels.map TLevel.en), .ro 3 (a.editions.map TEdition.en), I a.cover.w, I a.cover.h, S a.cover.cells, I a.now]]⟩, some ⟨32, 7, 0, true, [[.c (.slice none 0 0), .c (.slice none 0 0), .c (.slice none 0 0), .c (.int .i64 0), .c (.int .i64 0), .c (.string ⟨#[]⟩), .c (.int .i64 0)]]⟩, some ⟨121, 8, i, false, (runTo a l i).log.map TEntry.ed⟩, some ⟨97, 3, i, false, (runTo a l i).levels.map TLevel.en⟩, some ⟨136, 3, i, false, (runTo a l i).editions.map TEdition.ed⟩, some ⟨32, 7, 0, true, [[.own 2 i, .own 3 i, .own 4 i, I (runTo a l i).cover.w, I (runTo a l i).cover.h, S (runTo a l i).cover.cells, I (runTo a l i).now]]⟩]) (fun i => l.length - i) (fun i => i ≤ l.length) 0 (by simp) ?_ (by first | rfl | (simp [fil_zero]; done)) ?_
       (focus ((repeat' (first | exact Wk.nil | refine Wk.any ?_ | (with_reducible refine Wk.same ?_) | refine Wk.of ?_ ?_)) <;> first | rfl | (rfl)))
       intro i hi
       by_cases hlt : i < l.length
       case' pos =>
         have hP := True.intro
         obtain ⟨x, hx⟩ : ∃ x, l[i]? = some x := ⟨_, List.getElem?_eq_getElem hlt⟩
         have hg := map_get (f := TEvent.en) hx
         have ht := lt_true (f := TEvent.en) hlt
         have hn := next_ix hlt (by omega)
         have hclq0 : Clo (.ro 2 (x.feature.points.map TPoint.en)) := clo_list TPoint.clo_en
         have hclq1 : Clo (.ro 8 (x.log.map TEntry.en)) := clo_list TEntry.clo_en
         have hclq2 : Clo (.ro 3 (x.levels.map TLevel.en)) := clo_list TLevel.clo_en
         have hclqe : Clo (.agg x.en) := Clo.agg x.clo_en
       case' neg =>
         have hQ := True.intro
         have ht := lt_false (f := TEvent.en) hlt
         have e : i = l.length := by omega
         subst e
         try rw [List.take_length])
    | with_reducible refine ifP ?_
    | with_reducible refine ifN ?_) <;> (try dsimp only))
  all_goals first
    | (have _ := hP; (refine ⟨i + 1, _, hlt, by omega, ?_, rfl, ?_, ?_⟩; (focus ((repeat' (first | exact Wk.nil | refine Wk.any ?_ | (with_reducible refine Wk.same ?_) | refine Wk.of ?_ ?_)) <;> (first | rfl | (rw [hn]; done)))); (focus (exact fitsA)); (focus (exact fitsM_cons (clo_one a.clo_en) (fitsM_cons (clo_rows_b rfl) (fitsM_dcl (DCl.map (fun _ => rfl)) (fitsM_cons (clo_rows TLevel.clo_en) (fitsM_dcl (DCl.map (fun _ => rfl)) (fitsM_b (one_row (by (repeat' (first | exact Fits.nil _ | refine Fits.cons ?_ ?_ | exact Fits.any _ | exact Fits.c _ _ | exact Fits.own (by rfl) | exact Fits.ref (by rfl) | exact Fits.clo (by assumption) | exact Fits.clo (clo_of (by rfl)) | exact Fits.clo (clo_fn _))))) (FitsM.nil _))))))))))
    | (have _ := hQ; exact Fin.r1 [2, 3, 4] rfl (RV.cell (QOp.quietA TT_ok (by rfl))) ⟨rfl, rfl⟩)

theorem run_i (a : TAtlas) (hgd : a.gd) (l : List TEvent) (hl : l.length ≤ 1048576) (hp : ∀ e ∈ l, e.gd) : VCalls Tryz.prog 57 [.agg a.en, .ro 11 (l.map TEvent.en)] (fun r M => r = .agg (runR a l).eo ∧ M = (runR a l).rw) := by
  refine VB Tryz.func57 22 (fun E hE => ?_)
  have hgs := hgd.gs
  have hclA : Clo (.agg a.en) := Clo.agg a.clo_en
  have hclL : Clo (.ro 8 (a.log.map TEntry.en)) := clo_list TEntry.clo_en
  have hclV : Clo (.ro 3 (a.levels.map TLevel.en)) := clo_list TLevel.clo_en
  have hclE : Clo (.ro 3 (a.editions.map TEdition.en)) := clo_list TEdition.clo_en
  have hclR : Clo (.ro 11 (l.map TEvent.en)) := clo_list TEvent.clo_en
  dsimp only [TAtlas.en]
  repeat' ((first
    | (refine iAL ?_; first | refine AL.any (h := POp.gh POp.mk (Gh.trans (Gh.reown (q := 5) (id := 2) (id2 := 7) (i := 0) (j := 0) rfl rfl rfl rfl rfl rfl rfl rfl rfl (by first | exact DCl.map (fun _ => rfl))) (Gh.trans (Gh.reown (q := 5) (id := 3) (id2 := 8) (i := 0) (j := 1) rfl rfl rfl rfl rfl rfl rfl rfl rfl (by first | exact DCl.map (fun _ => rfl))) (Gh.reown (q := 5) (id := 4) (id2 := 9) (i := 0) (j := 2) rfl rfl rfl rfl rfl rfl rfl rfl rfl (by first | exact DCl.map (fun _ => rfl)))))) ?_ | refine AL.any ?_ | refine AL.any (h := POp.O Tryz.func51 (hc := apR_i a hgd l hl hp hx)) ?_ | refine AL.any (h := POp.O Tryz.func75 (hc := cpA_iX a (by assumption))) ?_ | refine AL.nil ?_)
    | (refine iAW ?_; first | (refine AW.c0 ?_; constructor) | refine AW.cT ?_ | refine AW.cF ?_ | (refine AW.c2 ?_ ?_ <;> (intro h; try simp only [bT, bF] at h)))
    | (refine AW.loopD hE (fun i : Nat => [.any, .any, .ref 0 0 7 0 0, .any, .ref 1 0 7 0 0, .ref 5 0 7 0 0, .any, .any, .any, .any, .ro 11 (l.map TEvent.en), I ((l.map TEvent.en).length : Int), I (i : Int), .any, .any, .any, .any, .any, .any, .any, .any, .any, .any, .any]) (fun i => [some ⟨32, 7, 0, true, [[.ro 8 (a.log.map TEntry.en), .ro 3 (a.levels.map TLevel.en), .ro 3 (a.editions.map TEdition.en), I a.cover.w, I a.cover.h, S a.cover.cells, I a.now]]⟩, some ⟨32, 7, 0, true, [[.c (.slice none 0 0), .c (.slice none 0 0), .c (.slice none 0 0), .c (.int .i64 0), .c (.int .i64 0), .c (.string ⟨#[]⟩), .c (.int .i64 0)]]⟩, some ⟨121, 8, i, false, (runTo a l i).log.map TEntry.ed⟩, some ⟨97, 3, i, false, (runTo a l i).levels.map TLevel.en⟩, some ⟨136, 3, i, false, (runTo a l i).editions.map TEdition.ed⟩, some ⟨32, 7, 0, true, [[.own 2 i, .own 3 i, .own 4 i, I (runTo a l i).cover.w, I (runTo a l i).cover.h, S (runTo a l i).cover.cells, I (runTo a l i).now]]⟩]) (fun i => l.length - i) (fun i => i ≤ l.length) 0 (by simp) ?_ (by first | rfl | (simp [fil_zero]; done)) ?_
       (focus ((repeat' (first | exact Wk.nil | refine Wk.any ?_ | (with_reducible refine Wk.same ?_) | refine Wk.of ?_ ?_)) <;> first | rfl | (rfl)))
       intro i hi
       by_cases hlt : i < l.length
       case' pos =>
         have hP := True.intro
         obtain ⟨x, hx⟩ : ∃ x, l[i]? = some x := ⟨_, List.getElem?_eq_getElem hlt⟩
         have hg := map_get (f := TEvent.en) hx
         have ht := lt_true (f := TEvent.en) hlt
         have hn := next_ix hlt (by omega)
         have hclq0 : Clo (.ro 2 (x.feature.points.map TPoint.en)) := clo_list TPoint.clo_en
         have hclq1 : Clo (.ro 8 (x.log.map TEntry.en)) := clo_list TEntry.clo_en
         have hclq2 : Clo (.ro 3 (x.levels.map TLevel.en)) := clo_list TLevel.clo_en
         have hclqe : Clo (.agg x.en) := Clo.agg x.clo_en
       case' neg =>
         have hQ := True.intro
         have ht := lt_false (f := TEvent.en) hlt
         have e : i = l.length := by omega
         subst e
         try rw [List.take_length])
    | with_reducible refine ifP ?_
    | with_reducible refine ifN ?_) <;> (try dsimp only))
  all_goals first
    | (have _ := hP; (refine ⟨i + 1, _, hlt, by omega, ?_, rfl, ?_, ?_⟩; (focus ((repeat' (first | exact Wk.nil | refine Wk.any ?_ | (with_reducible refine Wk.same ?_) | refine Wk.of ?_ ?_)) <;> (first | rfl | (rw [hn]; done)))); (focus (exact fitsA)); (focus (exact fitsM_cons (clo_one a.clo_en) (fitsM_cons (clo_rows_b rfl) (fitsM_dcl (DCl.map (fun _ => rfl)) (fitsM_cons (clo_rows TLevel.clo_en) (fitsM_dcl (DCl.map (fun _ => rfl)) (fitsM_b (one_row (by (repeat' (first | exact Fits.nil _ | refine Fits.cons ?_ ?_ | exact Fits.any _ | exact Fits.c _ _ | exact Fits.own (by rfl) | exact Fits.ref (by rfl) | exact Fits.clo (by assumption) | exact Fits.clo (clo_of (by rfl)) | exact Fits.clo (clo_fn _))))) (FitsM.nil _))))))))))
    | (have _ := hQ; exact Fin.r1 [2, 3, 4] rfl (RV.cell (QOp.quietA TT_ok (by rfl))) ⟨rfl, rfl⟩)

theorem run_i' (a : TAtlas) (hgd : a.gd) (l : List TEvent) (hl : l.length ≤ 1048576) (hp : ∀ e ∈ l, e.gd) : VCalls Tryz.prog 57 [.agg a.en, .ro 11 (l.map TEvent.en)] (fun r M => r = .agg (runR a l).en ∧ M = []) := VCalls.frz (run_i a hgd l hl hp) vwlT
theorem run_s' (a : TAtlas) (hgd : a.gd) (l : List TEvent) (hl : l.length ≤ 1048576) (hp : ∀ e ∈ l, e.gd) : VCalls Tryz.prog 55 [.agg a.en, .ro 11 (l.map TEvent.en)] (fun r M => r = .agg (runR a l).en ∧ M = []) := VCalls.frz (run_s a hgd l hl hp) vwlT
end Go.Proofs.YtacbpfbelcdeiaaGreat.Abs
