/- Part F of the walk over abstract states and of the functions' walks. -/
import Derived.Test.YtacbpfbelcdeiaaGreatWkStep
import Derived.Test.YtacbpfbelcdeiaaGreatBnA
import Derived.Test.YtacbpfbelcdeiaaGreatBnC
import Derived.Lib.ConvBytes
import Derived.Test.YtacbpfbelcdeiaaGreatBnE
import Derived.Test.YtacbpfbelcdeiaaGreatWkOwn
import Derived.Test.YtacbpfbelcdeiaaGreatWkMark
/- The walks of SourceOf. -/
namespace Go.Proofs.YtacbpfbelcdeiaaGreat.Abs
open Go.Proofs Go.RowKit
set_option linter.unusedVariables false
set_option linter.unusedSimpArgs false
set_option maxRecDepth 100000
set_option maxHeartbeats 2000000
attribute [local irreducible] OpA AL AW DL DLM DLR DLS QOp POp VCalls VCallsI
def srcTo (l : List TEntry) (i : Nat) : List TFeature := ((l.take i).filter fun e => !e.gone).map TEntry.feature
def srcOf (l : List TEntry) : List TFeature := if isLog l = true then srcTo l l.length else []
theorem srcOf_t {l : List TEntry} (h : isLog l = true) : srcOf l = srcTo l l.length := if_pos h
theorem srcOf_f {l : List TEntry} (h : isLog l = false) : srcOf l = [] := if_neg (by rw [h]; decide)
theorem srcOf_cases {l : List TEntry} {i : Nat} {x : TEntry} (h : l[i]? = some x) : (x.gone = true ∧ srcTo l (i + 1) = srcTo l i) ∨ (x.gone = false ∧ srcTo l (i + 1) = srcTo l i ++ [x.feature]) := by
  unfold srcTo
  rw [take_succ_of h, List.filter_append, List.map_append]
  cases hgo : x.gone <;> simp [hgo]
theorem srcTo_len (l : List TEntry) (i : Nat) : (srcTo l i).length ≤ i := by
  unfold srcTo
  rw [List.length_map]
  exact Nat.le_trans (List.length_filter_le _ _) (by rw [List.length_take]; omega)
theorem srcTo_mem {l : List TEntry} {i : Nat} {p : TFeature → Prop} (hp : ∀ e ∈ l, p e.feature) : ∀ y ∈ srcTo l i, p y := fun y hy => by
  unfold srcTo at hy
  obtain ⟨e, he, rfl⟩ := List.mem_map.1 hy
  exact hp e (List.mem_of_mem_take (List.mem_filter.1 he).1)
theorem srcOf_len {l : List TEntry} (hl : l.length ≤ 1048576) : (srcOf l).length ≤ 1048576 := by
  unfold srcOf
  split
  · exact Nat.le_trans (srcTo_len l _) hl
  · exact Nat.zero_le _
theorem srcOf_mem {l : List TEntry} {p : TFeature → Prop} (hp : ∀ e ∈ l, p e.feature) : ∀ y ∈ srcOf l, p y := by
  unfold srcOf
  split
  · exact srcTo_mem hp
  · intro y hy; simp at hy
def nLog (l : List TEntry) : Nat := if isLog l = true then l.length else 0
theorem nLog_t {l : List TEntry} {i : Nat} (h : i < nLog l) : isLog l = true ∧ i < l.length := by
  unfold nLog at h
  split at h
  · exact ⟨by assumption, h⟩
  · omega
theorem srcOf_n (l : List TEntry) : srcTo l (nLog l) = srcOf l := by
  unfold nLog srcOf
  split
  · rfl
  · simp [srcTo]

theorem src_i (l : List TEntry) (hl : l.length ≤ 1048576) (hp : ∀ e ∈ l, e.feature.gd) : VCalls Tryz.prog 83 [.ro 8 (l.map TEntry.en)] (fun r M => r = .own 0 0 ∧ M = [some ⟨69, 5, 0, false, (srcOf l).map TFeature.ed⟩]) := by
  refine VB Tryz.func83 27 (fun E hE => ?_)
  have hclo : Clo (.ro 8 (l.map TEntry.en)) := clo_list TEntry.clo_en
  repeat' ((first
    | (refine iAL ?_; first | refine AL.any (h := POp.gh POp.mk (Gh.absorbA (q := 0) (id := 2) (j := 4) rfl rfl rfl rfl rfl rfl (DCl.map (fun _ => rfl)) TPoint.und)) ?_ | refine AL.any ?_ | refine AL.any (h := POp.k Tryz.func89 (hc := isLog_i _ (by assumption) (by assumption))) ?_ | refine AL.any (h := POp.O Tryz.func122 (hc := cloneF x.feature (by assumption))) ?_ | refine AL.nil ?_)
    | (refine iAW ?_; first | (refine AW.c0 ?_; constructor) | refine AW.cT ?_ | refine AW.cF ?_ | (refine AW.c2 ?_ ?_ <;> (intro h; try simp only [bT, bF] at h)))
    | (refine AW.loopD hE (fun i : Nat => [.any, .any, .any, .own 0 (srcTo l i).length, .any, .any, .any, .any, .any, .any, .any, .ro 8 (l.map TEntry.en), I ((l.map TEntry.en).length : Int), I (i : Int), .any, .any, .any, .any, .any, .any, .any, .any, .any, .any, .any, .any, .any, .any]) (fun i => [some ⟨69, 5, (srcTo l i).length, false, (srcTo l i).map TFeature.ed⟩]) (fun i => l.length - i) (fun i => i ≤ l.length) 0 (by simp) ?_ (by first | rfl | (simp [fil_zero]; done)) ?_
       (focus ((repeat' (first | exact Wk.nil | refine Wk.any ?_ | (with_reducible refine Wk.same ?_) | refine Wk.of ?_ ?_)) <;> first | rfl | (rfl)))
       intro i hi
       by_cases hlt : i < l.length
       case' pos =>
         have hP := True.intro
         obtain ⟨x, hx⟩ : ∃ x, l[i]? = some x := ⟨_, List.getElem?_eq_getElem hlt⟩
         have hg := map_get (f := TEntry.en) hx
         have ht := lt_true (f := TEntry.en) hlt
         have hn := next_ix hlt (by omega)
         have hgx := hp x (List.mem_of_getElem? hx)
         have hgs := hgx.1
         have hln := srcTo_len l i
         have hclP : Clo (.ro 2 (x.feature.points.map TPoint.en)) := clo_list TPoint.clo_en
         have hclF : Clo (.agg x.feature.en) := Clo.agg x.feature.clo_en
         have hcle : Clo (.agg x.en) := Clo.agg x.clo_en
         rcases srcOf_cases hx with ⟨hgo, hsr⟩ | ⟨hgo, hsr⟩
         rotate_left 1
         have hm : (srcTo l (i + 1)).map TFeature.ed = (srcTo l i).map TFeature.ed ++ [x.feature.ed] := by rw [hsr, List.map_append]; rfl
         have hlen : (srcTo l (i + 1)).length = (srcTo l i).length + 1 := by rw [hsr, List.length_append]; rfl
         rotate_left 1
       case' neg =>
         have hQ := True.intro
         have ht := lt_false (f := TEntry.en) hlt
         have e : i = l.length := by omega
         subst e
         try rw [List.take_length])
    | with_reducible refine ifP ?_
    | with_reducible refine ifN ?_) <;> (try dsimp only))
  all_goals first
    | (have _ := hP; (refine ⟨i + 1, _, hlt, by omega, ?_, by first | (rw [hm, hlen] <;> rfl) | (rw [hsr] <;> rfl), ?_, ?_⟩; (focus ((repeat' (first | exact Wk.nil | refine Wk.any ?_ | (with_reducible refine Wk.same ?_) | refine Wk.of ?_ ?_)) <;> (first | rfl | (rw [hlen]; done) | (rw [hsr]; done) | simp_all))); (focus (exact fitsA)); (focus (exact fits_dcl (DCl.map (fun _ => rfl))))))
    | (have _ := hQ; (rw [srcOf_t (by assumption)]); exact Fin.r1 [0] rfl (RV.tmp (by rfl)) ⟨rfl, rfl⟩)
    | (rw [srcOf_f (by assumption)]); exact Fin.r1 [0] rfl (RV.tmp (by rfl)) ⟨rfl, rfl⟩

theorem src_s (l : List TEntry) (hl : l.length ≤ 1048576) (hp : ∀ e ∈ l, e.feature.gd) : VCalls Tryz.prog 81 [.ro 8 (l.map TEntry.en)] (fun r M => r = .own 0 0 ∧ M = [some ⟨69, 5, 0, false, (srcOf l).map TFeature.ed⟩]) := by
  refine VB Tryz.func81 31 (fun E hE => ?_)
  have hclo : Clo (.ro 8 (l.map TEntry.en)) := clo_list TEntry.clo_en
  repeat' ((first
    | (refine iAL ?_; first | refine AL.any (h := POp.gh POp.mk (Gh.absorbA (q := 0) (id := 1) (j := 4) rfl rfl rfl rfl rfl rfl (DCl.map (fun _ => rfl)) TPoint.und)) ?_ | refine AL.any ?_ | refine AL.any (h := POp.O Tryz.func119 (hc := cloneF_s x.feature (by assumption))) ?_ | refine AL.U ?_ | refine AL.F ?_ | refine AL.T ?_ | refine AL.T (h := POp.k Tryz.func86 (hc := isLog_s _ (by assumption) (by assumption))) ?_ | refine AL.W ?_ | refine AL.W (h := fun h => by (try rw [h]); exact POp.k Tryz.func86 (hc := isLog_s _ (by assumption) (by assumption))) ?_ | refine AL.nil ?_)
    | (refine iAW ?_; first | (refine AW.c0 ?_; constructor) | refine AW.cT ?_ | refine AW.cF ?_ | (refine AW.c2 ?_ ?_ <;> (intro h; try simp only [bT, bF] at h)))
    | (refine AW.loopD hE (fun i : Nat => [.ro 8 (l.map TEntry.en), .any, .any, .own 0 (srcTo l i).length, I (i : Int), .any, .any, .any, .any, .any, .any, .any, .any, .any, .any, .any, .any, .any, .any, .any, .any, .any, .any, .any, .any, .any, .any, .any, .any, .any, .any, .any]) (fun i => [some ⟨69, 5, (srcTo l i).length, false, (srcTo l i).map TFeature.ed⟩]) (fun i => nLog l - i) (fun i => i ≤ nLog l) 0 (by simp) ?_ (by first | rfl | (simp [fil_zero]; done)) ?_
       (focus ((repeat' (first | exact Wk.nil | refine Wk.any ?_ | (with_reducible refine Wk.same ?_) | refine Wk.of ?_ ?_)) <;> first | rfl | (rfl)))
       intro i hi
       by_cases hlt : i < nLog l
       case' pos =>
         have hP := True.intro
         obtain ⟨hIL, hN⟩ := nLog_t hlt
         obtain ⟨x, hx⟩ : ∃ x, l[i]? = some x := ⟨_, List.getElem?_eq_getElem hN⟩
         have hg := map_get (f := TEntry.en) hx
         have ht : (decide ((i : Int) < ((l.map TEntry.en).length : Int)) && isLog l) = true := by rw [hIL]; simp; omega
         have hn := next_ix hN (by omega)
         have hgx := hp x (List.mem_of_getElem? hx)
         have hgs := hgx.1
         have hln := srcTo_len l i
         have hclP : Clo (.ro 2 (x.feature.points.map TPoint.en)) := clo_list TPoint.clo_en
         have hclF : Clo (.agg x.feature.en) := Clo.agg x.feature.clo_en
         have hcle : Clo (.agg x.en) := Clo.agg x.clo_en
         rcases srcOf_cases hx with ⟨hgo, hsr⟩ | ⟨hgo, hsr⟩
         rotate_left 1
         have hm : (srcTo l (i + 1)).map TFeature.ed = (srcTo l i).map TFeature.ed ++ [x.feature.ed] := by rw [hsr, List.map_append]; rfl
         have hlen : (srcTo l (i + 1)).length = (srcTo l i).length + 1 := by rw [hsr, List.length_append]; rfl
         rotate_left 1
       case' neg =>
         have hQ := True.intro
         have e : i = nLog l := by omega
         have ht : (decide ((i : Int) < ((l.map TEntry.en).length : Int)) && isLog l) = false := by
           rw [e]
           unfold nLog
           split
           · simp
           · simp_all
         subst e)
    | with_reducible refine ifP ?_
    | with_reducible refine ifN ?_) <;> (try dsimp only))
  all_goals first
    | (have _ := hP; (refine ⟨i + 1, _, hlt, by omega, ?_, by first | (rw [hm, hlen] <;> rfl) | (rw [hsr] <;> rfl), ?_, ?_⟩; (focus ((repeat' (first | exact Wk.nil | refine Wk.any ?_ | (with_reducible refine Wk.same ?_) | refine Wk.of ?_ ?_)) <;> (first | rfl | (rw [hlen]; done) | (rw [hsr]; done) | simp_all))); (focus (exact fitsA)); (focus (exact fits_dcl (DCl.map (fun _ => rfl))))))
    | (have _ := hQ; (simp only [srcOf_n]); exact Fin.r1 [0] rfl (RV.tmp (by rfl)) ⟨rfl, rfl⟩)

theorem src_i' (l : List TEntry) (hl : l.length ≤ 1048576) (hp : ∀ e ∈ l, e.feature.gd) : VCalls Tryz.prog 83 [.ro 8 (l.map TEntry.en)] (fun r M => r = .ro 5 ((srcOf l).map TFeature.en) ∧ M = []) := VCalls.frz (src_i l hl hp) (by repeat' (first | exact VwL.nil | refine VwL.cons ?_ ?_ | (refine View.own (by rfl) (by rfl) (by rfl) (by rfl) ?_ ?_ <;> first | exact DCl.b rfl | exact DCl.map (fun _ => rfl) | assumption | rfl | exact TPoint.und | exact TSegment.und | exact TBox.und | exact TFeature.und | exact TMeet.und | exact TPlace.und | exact TCover.und | exact TLabel.und | exact TPiece.und | exact TLevel.und | exact TChart.und | exact TReason.und | exact TEdit.und | exact TEntry.und | exact TEdition.und | exact TListing.und | exact TAtlas.und | exact TEvent.und | exact TWindow.und | exact und_nil | exact und_I | assumption) | refine View.agg' ?_ | exact View.same (by first | exact clo_of (by rfl) | assumption | exact clo_fn _) | exact View.nil))
theorem src_s' (l : List TEntry) (hl : l.length ≤ 1048576) (hp : ∀ e ∈ l, e.feature.gd) : VCalls Tryz.prog 81 [.ro 8 (l.map TEntry.en)] (fun r M => r = .ro 5 ((srcOf l).map TFeature.en) ∧ M = []) := VCalls.frz (src_s l hl hp) (by repeat' (first | exact VwL.nil | refine VwL.cons ?_ ?_ | (refine View.own (by rfl) (by rfl) (by rfl) (by rfl) ?_ ?_ <;> first | exact DCl.b rfl | exact DCl.map (fun _ => rfl) | assumption | rfl | exact TPoint.und | exact TSegment.und | exact TBox.und | exact TFeature.und | exact TMeet.und | exact TPlace.und | exact TCover.und | exact TLabel.und | exact TPiece.und | exact TLevel.und | exact TChart.und | exact TReason.und | exact TEdit.und | exact TEntry.und | exact TEdition.und | exact TListing.und | exact TAtlas.und | exact TEvent.und | exact TWindow.und | exact und_nil | exact und_I | assumption) | refine View.agg' ?_ | exact View.same (by first | exact clo_of (by rfl) | assumption | exact clo_fn _) | exact View.nil))
theorem areEd_long {l : List TEdition} (h : 6 < l.length) : areEd l = false := by
  unfold areEd
  rw [decide_eq_false (by omega), Bool.and_false]
def edNew (l : List TEdition) (t : Int) (s : List TFeature) : TEdition := ⟨t, s, sealOf (prevSeal l l.length) t s⟩
def addOk (l : List TEdition) (t : Int) (s : List TFeature) : Bool := areEd (l ++ [edNew l t s])
def addEd (l : List TEdition) (t : Int) (s : List TFeature) : List TEdition := if addOk l t s = true then l ++ [edNew l t s] else l
theorem addEd_t {l : List TEdition} {t : Int} {s : List TFeature} (h : addOk l t s = true) : addEd l t s = l ++ [edNew l t s] := if_pos h
theorem addEd_f {l : List TEdition} {t : Int} {s : List TFeature} (h : addOk l t s = false) : addEd l t s = l := if_neg (by rw [h]; decide)
theorem edNew_all {l : List TEdition} {t : Int} {s : List TFeature} {p : TFeature → Prop} (hp : ∀ e ∈ l, e.source.length ≤ 1048576 ∧ ∀ x ∈ e.source, p x) (hs : s.length ≤ 1048576) (hq : ∀ x ∈ s, p x) : ∀ e ∈ l ++ [edNew l t s], e.source.length ≤ 1048576 ∧ ∀ x ∈ e.source, p x := fun e he => by
  rcases List.mem_append.1 he with h | h
  · exact hp e h
  · obtain rfl := List.mem_singleton.1 h
    exact ⟨hs, hq⟩
theorem addEd_all {l : List TEdition} {t : Int} {s : List TFeature} {p : TFeature → Prop} (hp : ∀ e ∈ l, e.source.length ≤ 1048576 ∧ ∀ x ∈ e.source, p x) (hs : s.length ≤ 1048576) (hq : ∀ x ∈ s, p x) : ∀ e ∈ addEd l t s, e.source.length ≤ 1048576 ∧ ∀ x ∈ e.source, p x := by
  unfold addEd
  split
  · exact edNew_all hp hs hq
  · exact hp
theorem areEd_len {l : List TEdition} (h : areEd l = true) : l.length ≤ 6 := by
  unfold areEd at h
  simp only [Bool.and_eq_true, decide_eq_true_eq] at h
  omega
theorem addEd_len {l : List TEdition} {t : Int} {s : List TFeature} (hl : l.length ≤ 1048576) : (addEd l t s).length ≤ 1048576 := by
  unfold addEd
  split
  · rename_i h
    have := areEd_len h
    omega
  · exact hl
theorem lastEd_cases (l : List TEdition) (hl : l.length ≤ 1048576) : (prevSeal l l.length = 0 ∧ decide (((l.map TEdition.en).length : Int) > 0) = false) ∨
    ∃ p : TEdition, decide (((l.map TEdition.en).length : Int) > 0) = true ∧ 0 ≤ IntKind.i64.wrap (((l.map TEdition.en).length : Int) - 1) ∧ (l.map TEdition.en)[(IntKind.i64.wrap (((l.map TEdition.en).length : Int) - 1)).toNat]? = some p.en ∧ prevSeal l l.length = p.seal_ := by
  rw [List.length_map]
  rcases Nat.eq_zero_or_pos l.length with h0 | h0
  · exact .inl ⟨by rw [h0]; rfl, decide_eq_false (by omega)⟩
  · have e : IntKind.i64.wrap ((l.length : Int) - 1) = ((l.length - 1 : Nat) : Int) := by rw [w64 (by omega) (by omega)]; omega
    refine .inr ⟨l.getD (l.length - 1) edD, decide_eq_true (by omega), by omega, ?_, ?_⟩
    · rw [e, Int.toNat_natCast, List.getElem?_map, List.getElem?_eq_getElem (show l.length - 1 < l.length by omega)]
      simp [List.getD_eq_getElem?_getD, List.getElem?_eq_getElem (show l.length - 1 < l.length by omega)]
    · rw [prevSeal, if_neg (by omega)]
theorem AW.row0 {P : Program} {E : Env} {tm : List AV} {c : Code} {Qx : XPost} {A R X : List (List AV)} {ty : TypeId} {sz g : Nat} {bx : Bool} {Mr : Mem} (hx : A ++ R = X) (h : AW P c E tm (some ⟨ty, sz, g, bx, X⟩ :: Mr) Qx) : AW P c E tm (some ⟨ty, sz, g, bx, A ++ R⟩ :: Mr) Qx := by
  subst hx
  exact h

theorem areEd_iL (l : List TEdition) (hl : l.length ≤ 1048577) (h6 : 6 < l.length) : VCalls Tryz.prog 107 [.ro 3 (l.map TEdition.en)] (fun r M => r = B false ∧ M = []) := by
  refine VB Tryz.func107 54 (fun E hE => ?_)
  have hclo : Clo (.ro 3 (l.map TEdition.en)) := clo_list TEdition.clo_en
  have h7 : decide (((l.map TEdition.en).length : Int) > 6) = true := by simp; omega
  repeat' ((first
    | (refine iAL ?_; first | refine AL.any ?_ | refine AL.U ?_ | refine AL.F ?_ | refine AL.T ?_ | refine AL.W ?_ | refine AL.nil ?_)
    | ((with_reducible show DL ..); first | refine DL.any ?_ | refine DL.any (h := POp.k Tryz.func78 (hc := inr_v _ _ _)) ?_ | refine DL.U ?_ | refine DL.F ?_ | refine DL.T ?_ | refine DL.T (h := POp.k Tryz.func121 (hc := seal_i _ _ _ (by assumption) (by assumption))) ?_ | refine DL.T (h := POp.k Tryz.func135 (hc := isSource_i _ (by assumption) (by assumption))) ?_ | refine DL.W ?_ | refine DL.W (h := fun h => by (try rw [h]); exact POp.k Tryz.func121 (hc := seal_i _ _ _ (by assumption) (by assumption))) ?_ | refine DL.W (h := fun h => by (try rw [h]); exact POp.k Tryz.func135 (hc := isSource_i _ (by assumption) (by assumption))) ?_ | refine DL.nil ?_)
    | (refine iAW ?_; first | (refine AW.c0 ?_; constructor) | refine AW.dr (id := 7) 34 ?_ | refine AW.cT ?_ | refine AW.cF ?_ | (refine AW.c2 ?_ ?_ <;> (intro h; try simp only [bT, bF] at h)))
    | with_reducible refine ifP ?_
    | with_reducible refine ifN ?_) <;> (try dsimp only))
  all_goals exact Fin.one rfl (RV.tmp (by rfl)) (clo_c _) ⟨by first | rfl | (simp_all; done), rfl⟩

theorem areEd_sL (l : List TEdition) (hl : l.length ≤ 1048577) (h6 : 6 < l.length) : VCalls Tryz.prog 104 [.ro 3 (l.map TEdition.en)] (fun r M => r = B false ∧ M = []) := by
  refine VB Tryz.func104 73 (fun E hE => ?_)
  have hclo : Clo (.ro 3 (l.map TEdition.en)) := clo_list TEdition.clo_en
  repeat' ((first
    | (refine iAL ?_; first | refine AL.any ?_ | refine AL.any (h := POp.k Tryz.func118 (hc := seal_s _ _ _ (by assumption) (by assumption))) ?_ | refine AL.U ?_ | refine AL.F ?_ | refine AL.T ?_ | refine AL.W ?_ | refine AL.nil ?_)
    | ((with_reducible show DL ..); first | refine DL.any ?_ | refine DL.any (h := POp.k Tryz.func77 (hc := inr_s _ _ _)) ?_ | refine DL.U ?_ | refine DL.F ?_ | refine DL.T ?_ | refine DL.T (h := POp.k Tryz.func133 (hc := isSource_s _ (by assumption) (by assumption))) ?_ | refine DL.W ?_ | refine DL.W (h := fun h => by (try rw [h]); exact POp.k Tryz.func133 (hc := isSource_s _ (by assumption) (by assumption))) ?_ | refine DL.nil ?_)
    | (refine iAW ?_; first | (refine AW.c0 ?_; constructor) | refine AW.dr (id := 5) 11 ?_ | refine AW.dr (id := 6) 40 ?_ | refine AW.cT ?_ | refine AW.cF ?_ | (refine AW.c2 ?_ ?_ <;> (intro h; try simp only [bT, bF] at h)))
    | (refine AW.loopD hE (fun i : Nat => (.ro 3 (l.map TEdition.en) :: .any :: .any :: I 0 :: I (i : Int) :: .any :: .any :: .any :: .any :: .any :: .any :: .any :: .any :: .any :: .any :: .any :: .any :: .any :: .any :: .any :: .any :: .any :: .any :: .any :: .any :: .any :: .any :: .any :: .any :: .any :: .any :: .any :: .any :: .any :: .any :: .any :: .any :: .any :: .any :: .any :: .any :: .any :: .any :: .any :: .any :: .any :: .any :: .any :: .any :: .any :: .any :: .any :: .any :: .any :: .any :: .any :: .any :: .any :: .any :: .any :: .any :: .any :: .any :: .any :: .any :: .any :: .any :: .any :: .any :: .any :: .any :: .any :: .any :: .any :: [])) (fun i => []) (fun i => 0 - i) (fun i => i ≤ 0) 0 (by simp) ?_ (by first | rfl | (simp [fil_zero]; done)) ?_
       (focus (exact wkI))
       intro i hi
       by_cases hlt : i < 0
       case' pos =>
         have hP := True.intro
         exact absurd hlt (by omega)
       case' neg =>
         have hQ := True.intro
         have e : i = 0 := by omega
         subst e
         have ht : (decide (((0 : Nat) : Int) < ((l.map TEdition.en).length : Int)) && decide (((l.map TEdition.en).length : Int) ≤ 6)) = false := by simp; omega
         have h7 : decide (((l.map TEdition.en).length : Int) ≤ 6) = false := by simp; omega)
    | with_reducible refine ifP ?_
    | with_reducible refine ifN ?_) <;> (try dsimp only))
  all_goals first
    | (have _ := hP; (refine ⟨i + 1, _, hlt, by omega, ?_, rfl, ?_, ?_⟩; (focus (exact wkN)); (focus (exact fitsA)); (focus (exact FitsM.nil _))))
    | (have _ := hQ; exact Fin.one rfl (RV.tmp (by rfl)) (clo_c _) ⟨by first | rfl | (simp_all; done), rfl⟩)

theorem areEd_i1 (l : List TEdition) (hl : l.length ≤ 1048577) (hp : ∀ e ∈ l, e.source.length ≤ 1048576 ∧ ∀ x ∈ e.source, x.gd) : VCalls Tryz.prog 107 [.ro 3 (l.map TEdition.en)] (fun r M => r = B (areEd l) ∧ M = []) := by
  rcases Nat.lt_or_ge 6 l.length with h | h
  · rw [areEd_long h]
    exact areEd_iL l hl h
  · exact areEd_i l (by omega) hp
theorem areEd_s1 (l : List TEdition) (hl : l.length ≤ 1048577) (hp : ∀ e ∈ l, e.source.length ≤ 1048576 ∧ ∀ x ∈ e.source, x.gd) : VCalls Tryz.prog 104 [.ro 3 (l.map TEdition.en)] (fun r M => r = B (areEd l) ∧ M = []) := by
  rcases Nat.lt_or_ge 6 l.length with h | h
  · rw [areEd_long h]
    exact areEd_sL l hl h
  · exact areEd_s l (by omega) hp
theorem addEd_i (l : List TEdition) (t : Int) (s : List TFeature) (hl : l.length ≤ 1048576) (hp : ∀ e ∈ l, e.source.length ≤ 1048576 ∧ ∀ x ∈ e.source, x.gd) (hs : s.length ≤ 1048576) (hq : ∀ x ∈ s, x.gd) : VCalls Tryz.prog 82 [.ro 3 (l.map TEdition.en), I t, .ro 5 (s.map TFeature.en)] (fun r M => r = .tup [.own 0 0, B (addOk l t s)] ∧ M = [some ⟨136, 3, 0, false, (addEd l t s).map TEdition.ed⟩]) := by
  refine VB Tryz.func82 35 (fun E hE => ?_)
  have hclo : Clo (.ro 3 (l.map TEdition.en)) := clo_list TEdition.clo_en
  have hclS : Clo (.ro 5 (s.map TFeature.en)) := clo_list TFeature.clo_en
  have hq' : ∀ x ∈ s, x.sm := fun x hx => (hq x hx).1
  have hp' : ∀ e ∈ l, e.source.length ≤ 1048576 ∧ ∀ x ∈ e.source, x.sm := fun e he => ⟨(hp e he).1, fun x hx => ((hp e he).2 x hx).1⟩
  rcases lastEd_cases l hl with ⟨h0, hk⟩ | ⟨p, hk, hz, hgp, h0⟩
  have happ : l.map TEdition.ed ++ [[I t, .dp (.ro 5 (s.map TFeature.en)), I (sealOf 0 t s)]] = (l ++ [edNew l t s]).map TEdition.ed := by rw [List.map_append, edNew, h0]; rfl
  rotate_left 1
  have happ : l.map TEdition.ed ++ [[I t, .dp (.ro 5 (s.map TFeature.en)), I (sealOf p.seal_ t s)]] = (l ++ [edNew l t s]).map TEdition.ed := by rw [List.map_append, edNew, h0]; rfl
  rotate_left 1
  repeat' ((first
    | (refine iAL ?_; first | refine AL.any (h := POp.gh POp.mk (Gh.absorbA (q := 0) (id := 1) (j := 1) rfl rfl rfl rfl rfl rfl (DCl.map (fun _ => rfl)) TFeature.und)) ?_ | refine AL.any ?_ | refine AL.any (h := POp.D Tryz.func107 (hc := areEd_i1 (l ++ [edNew l t s]) (by simp; omega) (edNew_all hp hs hq))) ?_ | refine AL.any (h := POp.O Tryz.func116 (hc := cpD_i _ (by assumption) (by assumption))) ?_ | refine AL.any (h := POp.O Tryz.func120 (hc := cpS_i _ (by assumption) (by assumption))) ?_ | refine AL.any (h := POp.k Tryz.func121 (hc := seal_i _ t s (by assumption) (by assumption))) ?_ | refine AL.nil ?_)
    | (refine iAW ?_; first | (refine AW.row0 (A := l.map TEdition.ed) (X := (l ++ [edNew l t s]).map TEdition.ed) (by rw [← happ] <;> rfl) ?_) | (refine AW.c0 ?_; constructor) | refine AW.cT ?_ | refine AW.cF ?_ | (refine AW.c2 ?_ ?_ <;> (intro h; try simp only [bT, bF] at h)))) <;> (try dsimp only))
  all_goals first
    | ((have hok : addOk l t s = true := h); rw [addEd_t hok, hok]; exact Fin.rows2 [0] rfl (RV.tmp (by rfl)) (RV.tmp (by rfl)) (by decide) (by repeat' (first | exact trivial | refine ⟨⟨_, rfl, ?_⟩, ?_⟩ | exact DCl.b rfl | exact DCl.map (fun _ => rfl))) (by repeat' (first | exact all_nil | refine all_cons ?_ ?_ | exact ⟨⟨_, rfl, rfl⟩, rfl⟩ | (show Clo _; exact clo_of (by rfl)))) ⟨rfl, rfl⟩)
    | ((have hok : addOk l t s = false := h); rw [addEd_f hok, hok]; exact Fin.rows2 [3] rfl (RV.tmp (by rfl)) (RV.tmp (by rfl)) (by decide) (by repeat' (first | exact trivial | refine ⟨⟨_, rfl, ?_⟩, ?_⟩ | exact DCl.b rfl | exact DCl.map (fun _ => rfl))) (by repeat' (first | exact all_nil | refine all_cons ?_ ?_ | exact ⟨⟨_, rfl, rfl⟩, rfl⟩ | (show Clo _; exact clo_of (by rfl)))) ⟨rfl, rfl⟩)

theorem addEd_s (l : List TEdition) (t : Int) (s : List TFeature) (hl : l.length ≤ 1048576) (hp : ∀ e ∈ l, e.source.length ≤ 1048576 ∧ ∀ x ∈ e.source, x.gd) (hs : s.length ≤ 1048576) (hq : ∀ x ∈ s, x.gd) : VCalls Tryz.prog 80 [.ro 3 (l.map TEdition.en), I t, .ro 5 (s.map TFeature.en)] (fun r M => r = .tup [.own 0 0, B (addOk l t s)] ∧ M = [some ⟨136, 3, 0, false, (addEd l t s).map TEdition.ed⟩]) := by
  refine VB Tryz.func80 35 (fun E hE => ?_)
  have hclo : Clo (.ro 3 (l.map TEdition.en)) := clo_list TEdition.clo_en
  have hclS : Clo (.ro 5 (s.map TFeature.en)) := clo_list TFeature.clo_en
  have hq' : ∀ x ∈ s, x.sm := fun x hx => (hq x hx).1
  have hp' : ∀ e ∈ l, e.source.length ≤ 1048576 ∧ ∀ x ∈ e.source, x.sm := fun e he => ⟨(hp e he).1, fun x hx => ((hp e he).2 x hx).1⟩
  rcases lastEd_cases l hl with ⟨h0, hk⟩ | ⟨p, hk, hz, hgp, h0⟩
  have happ : l.map TEdition.ed ++ [[I t, .dp (.ro 5 (s.map TFeature.en)), I (sealOf 0 t s)]] = (l ++ [edNew l t s]).map TEdition.ed := by rw [List.map_append, edNew, h0]; rfl
  rotate_left 1
  have happ : l.map TEdition.ed ++ [[I t, .dp (.ro 5 (s.map TFeature.en)), I (sealOf p.seal_ t s)]] = (l ++ [edNew l t s]).map TEdition.ed := by rw [List.map_append, edNew, h0]; rfl
  rotate_left 1
  repeat' ((first
    | (refine iAL ?_; first | refine AL.any (h := POp.gh POp.mk (Gh.absorbA (q := 0) (id := 1) (j := 1) rfl rfl rfl rfl rfl rfl (DCl.map (fun _ => rfl)) TFeature.und)) ?_ | refine AL.any ?_ | refine AL.any (h := POp.O Tryz.func102 (hc := cpD_s _ (by assumption) (by assumption))) ?_ | refine AL.any (h := POp.D Tryz.func104 (hc := areEd_s1 (l ++ [edNew l t s]) (by simp; omega) (edNew_all hp hs hq))) ?_ | refine AL.any (h := POp.O Tryz.func117 (hc := cpS_s _ (by assumption) (by assumption))) ?_ | refine AL.any (h := POp.k Tryz.func118 (hc := seal_s _ t s (by assumption) (by assumption))) ?_ | refine AL.nil ?_)
    | (refine iAW ?_; first | (refine AW.row0 (A := l.map TEdition.ed) (X := (l ++ [edNew l t s]).map TEdition.ed) (by rw [← happ] <;> rfl) ?_) | (refine AW.c0 ?_; constructor) | refine AW.cT ?_ | refine AW.cF ?_ | (refine AW.c2 ?_ ?_ <;> (intro h; try simp only [bT, bF] at h)))) <;> (try dsimp only))
  all_goals first
    | ((have hok : addOk l t s = true := h); rw [addEd_t hok, hok]; exact Fin.rows2 [0] rfl (RV.tmp (by rfl)) (RV.tmp (by rfl)) (by decide) (by repeat' (first | exact trivial | refine ⟨⟨_, rfl, ?_⟩, ?_⟩ | exact DCl.b rfl | exact DCl.map (fun _ => rfl))) (by repeat' (first | exact all_nil | refine all_cons ?_ ?_ | exact ⟨⟨_, rfl, rfl⟩, rfl⟩ | (show Clo _; exact clo_of (by rfl)))) ⟨rfl, rfl⟩)
    | ((have hok : addOk l t s = false := h); rw [addEd_f hok, hok]; exact Fin.rows2 [3] rfl (RV.tmp (by rfl)) (RV.tmp (by rfl)) (by decide) (by repeat' (first | exact trivial | refine ⟨⟨_, rfl, ?_⟩, ?_⟩ | exact DCl.b rfl | exact DCl.map (fun _ => rfl))) (by repeat' (first | exact all_nil | refine all_cons ?_ ?_ | exact ⟨⟨_, rfl, rfl⟩, rfl⟩ | (show Clo _; exact clo_of (by rfl)))) ⟨rfl, rfl⟩)

end Go.Proofs.YtacbpfbelcdeiaaGreat.Abs

/- A drawn region in which one operation changes the memory, then another that waits for it. -/
namespace Go.Proofs.YtacbpfbelcdeiaaGreat.Abs
open Go.Proofs Go.RowKit
set_option linter.unusedVariables false
set_option linter.unusedSimpArgs false
set_option maxRecDepth 100000
set_option maxHeartbeats 2000000
def MS2 (M X Y : Mem) (m m2 : Nat) (L : Array Bool) : Mem := bif L.getD m2 false then Y else bif L.getD m false then X else M
section
variable {P : Program} {E : Env} {M X Y : Mem} {m m2 : Nat} {l : List Oper} {n1 : Nat} {rs tm0 : List AV}
structure DInvT (E : Env) (M X Y : Mem) (m m2 : Nat) (l : List Oper) (n1 : Nat) (rs tm0 : List AV) (L : Array Bool) (a : Act) (w : World) : Prop where
  sz : L.size = l.length
  down : ∀ (j : Nat) o, L.getD j false = true → l[j]? = some o → ∀ e ∈ o.after, Region.binds .any e = true → L.getD e.on false = true
  first : ∀ j, L.getD j false = true → j < n1
  st : a.defers = [] ∧ ∃ Fx β, HS E.base E.w0 w Fx β (MS2 M X Y m m2 L) ∧ Out E w Fx β (MS2 M X Y m m2 L) ∧ a.tmps.size = tm0.length ∧ ∀ (t : Nat) u, a.tmps[t]? = some u →
    (∀ (i : Nat) o r, L.getD i false = true → l[i]? = some o → o.dst = some t → rs[i]? = some r → Rep w Fx β (gens (MS2 M X Y m m2 L)) r u) ∧ ((∀ (i : Nat) o, L.getD i false = true → l[i]? = some o → o.dst ≠ some t) → ∀ x, tm0[t]? = some x → Rep w Fx β (gens (MS2 M X Y m m2 L)) x u)
theorem wpAny_chg2 {Q : Exit → Act → World → Prop} (hc : ChkD l n1) (hn : n1 ≤ l.length) (hm : m < n1) (hm2 : m2 < n1) (hmm : ((masks l []).getD m2 0).testBit m = true) (hrl : rs.length = n1)
    (hops : ∀ (j : Nat) o, j < n1 → l[j]? = some o → ∃ r, rs[j]? = some r ∧ ((j = m ∧ o.guard = none ∧ POp P o E (msk (o.looksAt l.toArray) (run (l.take n1) rs tm0 j)) M r X) ∨ (j = m2 ∧ o.guard = none ∧ POp P o E (msk (o.looksAt l.toArray) (run (l.take n1) rs tm0 j)) X r Y) ∨
      (j ≠ m ∧ j ≠ m2 ∧ GOp P l.toArray o E (msk (o.looksAt l.toArray) (run (l.take n1) rs tm0 j)) M r ∧ (((masks l []).getD m 0).testBit j = true ∨ GOp P l.toArray o E (msk (o.looksAt l.toArray) (run (l.take n1) rs tm0 j)) X r) ∧ (((masks l []).getD m2 0).testBit j = true ∨ GOp P l.toArray o E (msk (o.looksAt l.toArray) (run (l.take n1) rs tm0 j)) Y r))))
    (hend : ∀ a w, Sim E (run (l.take n1) rs tm0 n1) Y a w → wpList P l.toArray Q (l.drop n1) a w) :
    ∀ (fuel : Nat) (L : Array Bool) (a : Act) (w : World), DInvT E M X Y m m2 l n1 rs tm0 L a w → cnt L ≤ fuel → wpAny P .any l.toArray Q fuel L a w := by
  have hrlen : rs.length = (l.take n1).length := by rw [hrl, List.length_take]; omega
  have tk : ∀ {i : Nat} {o : Oper}, (l.take n1)[i]? = some o → i < n1 ∧ l[i]? = some o := fun {i o} h => by
    rw [List.getElem?_take] at h
    split at h
    · exact ⟨by assumption, h⟩
    · cases h
  have tk2 : ∀ {i : Nat} {o : Oper}, i < n1 → l[i]? = some o → (l.take n1)[i]? = some o := fun hi h => by rw [List.getElem?_take, if_pos hi]; exact h
  -- when all of the first have gone
  have fin : ∀ (fuel : Nat) (L : Array Bool) (a : Act) (w : World), DInvT E M X Y m m2 l n1 rs tm0 L a w → cnt L ≤ fuel → (∀ i, i < n1 → L.getD i false = true) → wpAny P .any l.toArray Q fuel L a w := by
    intro fuel L a w hI hcnt hall
    refine wpAny_tail hc fuel n1 L a w (Nat.le_refl _) hn hI.sz (fun i => ⟨hI.first i, hall i⟩) hcnt (hend a w ?_)
    obtain ⟨hd, Fx, β, hh, ho, hsz, hs⟩ := hI.st
    have eM : MS2 M X Y m m2 L = Y := by simp [MS2, hall m2 hm2]
    rw [eM] at hh ho hs
    refine ⟨hd, Fx, β, hh, ho, by rw [run_length]; exact hsz, fun t x u hx hu => ?_⟩
    obtain ⟨h1, h2⟩ := hs t u hu
    rcases run_get _ _ _ _ _ _ hrlen hx with ⟨i, o, hi, ho', hdst, hr⟩ | ⟨hno, hx0⟩
    · exact h1 i o x (hall i hi) (tk ho').2 hdst hr
    · exact h2 (fun i o hL ho' => hno i o (hI.first i hL) (tk2 (hI.first i hL) ho')) x hx0
  intro fuel
  induction fuel with
  | zero =>
    intro L a w hI hcnt
    refine fin 0 L a w hI hcnt (fun i hi => ?_)
    have := cnt_zero (by omega) (i := i) (L := L) (by rw [hI.sz]; omega)
    rwa [getD_tf (by rw [hI.sz]; omega)] at this
  | succ fuel ih =>
    intro L a w hI hcnt
    by_cases hall : ∀ i, i < n1 → L.getD i false = true
    · exact fin _ L a w hI hcnt hall
    · have hex : ∃ i, i < n1 ∧ L.getD i false ≠ true := Classical.byContradiction fun h => hall fun i hi => Classical.byContradiction fun h2 => h ⟨i, hi, h2⟩
      obtain ⟨i0, ⟨hi0, hu0⟩, hmin⟩ := least_of hex
      have hi0l : i0 < l.length := by omega
      refine ⟨fun hr => ?_, fun j hj => ?_⟩
      · have : i0 ∈ Region.ready .any l.toArray L := mem_ready.2 ⟨by
          rw [getD_tf (by rw [hI.sz]; omega)]
          simpa using hu0, l[i0], by simp, fun e he hbe => by
            have hlt := hc.top i0 _ e (List.getElem?_eq_getElem hi0l) he hbe
            rcases e2 : L.getD e.on false with _ | _
            · exact absurd (hmin e.on ⟨by omega, by rw [e2]; decide⟩) (by omega)
            · rfl⟩
        rw [hr] at this
        simp at this
      · obtain ⟨hun, o, ho, hdep⟩ := mem_ready.1 hj
        have ho' : l[j]? = some o := by simpa using ho
        have hjl : j < l.length := (List.getElem?_eq_some_iff.1 ho').1
        have hunf : L.getD j false = false := by rw [← getD_tf (by rw [hI.sz]; omega)]; exact hun
        have bef : ∀ i, ((masks l []).getD j 0).testBit i = true → L.getD i false = true := fun i hb => before (l := l) (L := fun i => L.getD i false = true) hI.down j o i ho' hdep hb
        have hjn : j < n1 := by
          rcases Nat.lt_or_ge j n1 with h | h
          · exact h
          · exact absurd (bef i0 (hc.tail j o i0 ho' h (by omega))) hu0
        obtain ⟨r, hr, hg⟩ := hops j o hjn ho'
        obtain ⟨hd, Fx, β, hh, hout, hsz, hs⟩ := hI.st
        have hsl : Slots w Fx β (gens (MS2 M X Y m m2 L)) (msk (o.looksAt l.toArray) (run (l.take n1) rs tm0 j)) a.tmps := by
          refine ⟨by rw [msk, mskG_length, run_length]; exact hsz, fun t x u hx hu => ?_⟩
          rcases msk_get hx with rfl | ⟨hlook, hx⟩
          · exact .any u
          · obtain ⟨h1, h2⟩ := hs t u hu
            rcases run_get _ _ _ _ _ _ hrlen hx with ⟨i, oi, hi, hoi, hdst, hri⟩ | ⟨hno, hx0⟩
            · have hoi := (tk hoi).2
              exact h1 i oi x (bef i ((hc.look j o t i oi ho' hjn hlook hoi hdst (by omega)).1 hi)) hoi hdst hri
            · refine h2 (fun i oi hL hoi hdst => ?_) x hx0
              rcases Nat.lt_trichotomy i j with h | h | h
              · exact hno i oi h (tk2 (by omega) hoi) hdst
              · subst h; rw [hunf] at hL; cases hL
              · have hb := (hc.look j o t i oi ho' hjn hlook hoi hdst (by omega)).2 h
                have := before (l := l) (L := fun i => L.getD i false = true) hI.down i oi j hoi (hI.down i oi hL hoi) hb
                rw [hunf] at this
                cases this
        have go : ∀ v w' Fx' β', HS E.base E.w0 w' Fx' β' (MS2 M X Y m m2 (L.setIfInBounds j true)) → Nx w Fx β (MS2 M X Y m m2 L) w' Fx' β' (MS2 M X Y m m2 (L.setIfInBounds j true)) → Rep w' Fx' β' (gens (MS2 M X Y m m2 (L.setIfInBounds j true))) r v → wpAny P .any l.toArray Q fuel (L.setIfInBounds j true) (a.put o.dst v) w' := by
          intro v w' Fx' β' hh' hx hrep
          refine ih _ _ _ ⟨by simpa using hI.sz, fun j' o2 hj' ho2 e he hbe => ?_, fun j' hj' => ?_, (put_defers a o.dst v).trans hd, Fx', β', hh', ?_, by rw [put_size]; exact hsz, fun t u hu => ?_⟩ (by have := cnt_set (L := L) (i := j) (by rw [hI.sz]; omega) hun; omega)
          · rw [getD_set (by rw [hI.sz]; omega)] at hj' ⊢
            rcases hj' with rfl | hj'
            · rw [ho'] at ho2
              obtain rfl := Option.some.inj ho2
              exact .inr (hdep e he hbe)
            · exact .inr (hI.down j' o2 hj' ho2 e he hbe)
          · rw [getD_set (by rw [hI.sz]; omega)] at hj'
            rcases hj' with rfl | hj'
            · exact hjn
            · exact hI.first j' hj'
          · refine ⟨hout.mv.trans hx.mv, Nat.le_trans hout.size hx.size, fun k hk => ?_, fun id b v k h1 h2 h3 => ?_⟩
            · rcases hx.lim k hk with h | h | ⟨id, b, v, h1, h2, h3⟩
              · exact hout.lim k h
              · exact .inr (.inl (Nat.le_trans hout.size h))
              · rcases hout.own id b v k h1 h2 h3 with h | h
                · exact .inr (.inl h)
                · exact .inr (.inr h)
            · rcases hx.own id b v k h1 h2 h3 with h | ⟨id', b', v', g1, g2, g3⟩
              · exact .inl (Nat.le_trans hout.size h)
              · exact hout.own id' b' v' k g1 g2 g3
          · rcases put_get a o.dst v t u hu with ⟨hdt, rfl⟩ | ⟨hdt, hu⟩
            · refine ⟨fun i oi ri hL hoi hdst hri => ?_, fun hno => absurd hdt (hno j o ((getD_set (by rw [hI.sz]; omega)).2 (.inl rfl)) ho')⟩
              have hin : i < n1 := by
                rw [getD_set (by rw [hI.sz]; omega)] at hL
                rcases hL with rfl | hL
                · exact hjn
                · exact hI.first i hL
              have e : i = j := by
                rcases Nat.lt_trichotomy i j with h | h | h
                · exact absurd hdst (hc.one j i o oi t ho' hjn h hoi hdt)
                · exact h
                · exact absurd hdt (hc.one i j oi o t hoi hin h ho' hdst)
              subst e
              rw [hr] at hri
              obtain rfl := Option.some.inj hri
              exact hrep
            · obtain ⟨h1, h2⟩ := hs t u hu
              refine ⟨fun i oi ri hL hoi hdst hri => ?_, fun hno x hx0 => (h2 (fun i oi hL hoi => hno i oi ((getD_set (by rw [hI.sz]; omega)).2 (.inr hL)) hoi) x hx0).mv hx.mv⟩
              rw [getD_set (by rw [hI.sz]; omega)] at hL
              rcases hL with rfl | hL
              · rw [ho'] at hoi
                obtain rfl := Option.some.inj hoi
                exact absurd hdst hdt
              · exact (h1 i oi ri hL hoi hdst hri).mv hx.mv
        unfold wpOp
        rw [ho]
        have hml : m < l.length := by omega
        have hml2 : m2 < l.length := by omega
        have hm21 : L.getD m2 false = true → L.getD m false = true := fun e => before (l := l) (L := fun i => L.getD i false = true) hI.down m2 l[m2] m (List.getElem?_eq_getElem hml2) (hI.down m2 l[m2] e (List.getElem?_eq_getElem hml2)) hmm
        have keep : ∀ q, q ≠ j → (L.setIfInBounds j true).getD q false = L.getD q false := fun q hq => by
          rcases e : L.getD q false with _ | _
          · rcases e3 : (L.setIfInBounds j true).getD q false with _ | _
            · rfl
            · rcases (getD_set (by rw [hI.sz]; omega)).1 e3 with h | h
              · exact absurd h hq
              · rw [e] at h; cases h
          · exact (getD_set (by rw [hI.sz]; omega)).2 (.inr e)
        have done : (L.setIfInBounds j true).getD j false = true := (getD_set (L := L) (i := j) (j := j) (by rw [hI.sz]; omega)).2 (.inl rfl)
        rcases hg with ⟨rfl, hgd, hp⟩ | ⟨rfl, hgd, hp⟩ | ⟨hjm, hjm2, hp, hpX, hpY⟩
        · have hne : m2 ≠ j := fun e => by
            have := bef j (by rw [← e]; rw [← e] at hmm; exact hmm)
            rw [hunf] at this
            cases this
          have hu2 : L.getD m2 false = false := by
            rcases e : L.getD m2 false with _ | _
            · rfl
            · have := hm21 e
              rw [hunf] at this
              cases this
          have e1 : MS2 M X Y j m2 L = M := by simp [MS2, hunf, hu2]
          have e2 : MS2 M X Y j m2 (L.setIfInBounds j true) = X := by unfold MS2; rw [keep m2 hne, hu2, done]; rfl
          rw [e1] at hh hsl
          have hw : Region.wanted o (yielded l.toArray a.tmps) = true := by simp [Region.wanted, hgd]
          simp only [hw, if_true]
          refine .inl (hp a w _ Q Fx β hh hsl fun v w' Fx' β' h1 h2 h3 => go v w' Fx' β' ?_ ?_ ?_)
          · rw [e2]; exact h1
          · rw [e1, e2]; exact h2
          · rw [e2]; exact h3
        · have hmd : L.getD m false = true := bef m hmm
          have e1 : MS2 M X Y m j L = X := by simp [MS2, hunf, hmd]
          have e2 : MS2 M X Y m j (L.setIfInBounds j true) = Y := by unfold MS2; rw [done]; rfl
          rw [e1] at hh hsl
          have hw : Region.wanted o (yielded l.toArray a.tmps) = true := by simp [Region.wanted, hgd]
          simp only [hw, if_true]
          refine .inl (hp a w _ Q Fx β hh hsl fun v w' Fx' β' h1 h2 h3 => go v w' Fx' β' ?_ ?_ ?_)
          · rw [e2]; exact h1
          · rw [e1, e2]; exact h2
          · rw [e2]; exact h3
        · have e2 : MS2 M X Y m m2 (L.setIfInBounds j true) = MS2 M X Y m m2 L := by unfold MS2; rw [keep m (Ne.symm hjm), keep m2 (Ne.symm hjm2)]
          have hg : GOp P l.toArray o E (msk (o.looksAt l.toArray) (run (l.take n1) rs tm0 j)) (MS2 M X Y m m2 L) r := by
            unfold MS2
            rcases e2 : L.getD m2 false with _ | _
            · rcases e : L.getD m false with _ | _
              · exact hp
              · rcases hpX with hb | hX
                · have := before (l := l) (L := fun i => L.getD i false = true) hI.down m l[m] j (List.getElem?_eq_getElem hml) (hI.down m l[m] e (List.getElem?_eq_getElem hml)) hb
                  rw [hunf] at this
                  cases this
                · exact hX
            · rcases hpY with hb | hY
              · have := before (l := l) (L := fun i => L.getD i false = true) hI.down m2 l[m2] j (List.getElem?_eq_getElem hml2) (hI.down m2 l[m2] e2 (List.getElem?_eq_getElem hml2)) hb
                rw [hunf] at this
                cases this
              · exact hY
          exact hg.go hh hsl fun v w' Fx' β' h1 h2 h3 => go v w' Fx' β' (by rw [e2]; exact h1) (by rw [e2]; exact h2) (by rw [e2]; exact h3)

def D2 (P : Program) (ops : Array Oper) (E : Env) (M X Y : Mem) (m m2 b1 b2 : Nat) : Nat → List Oper → List AV → (List AV → Prop) → Prop
  | _, [], tm, N => N tm
  | j, o :: rest, tm, N => ∃ r, ((j = m ∧ o.guard = none ∧ POp P o E (msk (o.looksAt ops) tm) M r X) ∨ (j = m2 ∧ o.guard = none ∧ POp P o E (msk (o.looksAt ops) tm) X r Y) ∨
      (j ≠ m ∧ j ≠ m2 ∧ GOp P ops o E (msk (o.looksAt ops) tm) M r ∧ (b1.testBit j = true ∨ GOp P ops o E (msk (o.looksAt ops) tm) X r) ∧ (b2.testBit j = true ∨ GOp P ops o E (msk (o.looksAt ops) tm) Y r))) ∧ D2 P ops E M X Y m m2 b1 b2 (j + 1) rest (dput tm o.dst r) N
theorem D2.data {b1 b2 : Nat} {ops : Array Oper} {N : List AV → Prop} : ∀ (os : List Oper) (j0 : Nat) (tm : List AV), D2 P ops E M X Y m m2 b1 b2 j0 os tm N →
    ∃ (rs : List AV), rs.length = os.length ∧ N (run os rs tm os.length) ∧ ∀ (j : Nat) o, os[j]? = some o → ∃ r, rs[j]? = some r ∧ ((j0 + j = m ∧ o.guard = none ∧ POp P o E (msk (o.looksAt ops) (run os rs tm j)) M r X) ∨ (j0 + j = m2 ∧ o.guard = none ∧ POp P o E (msk (o.looksAt ops) (run os rs tm j)) X r Y) ∨
      (j0 + j ≠ m ∧ j0 + j ≠ m2 ∧ GOp P ops o E (msk (o.looksAt ops) (run os rs tm j)) M r ∧ (b1.testBit (j0 + j) = true ∨ GOp P ops o E (msk (o.looksAt ops) (run os rs tm j)) X r) ∧ (b2.testBit (j0 + j) = true ∨ GOp P ops o E (msk (o.looksAt ops) (run os rs tm j)) Y r)))
  | [], j0, tm, h => ⟨[], rfl, h, fun j o ho => by simp at ho⟩
  | o :: os, j0, tm, ⟨r, hp, h⟩ => by
    obtain ⟨rs, h1, h2, h3⟩ := D2.data os (j0 + 1) _ h
    refine ⟨r :: rs, by simp [h1], h2, fun j o' ho => ?_⟩
    cases j with
    | zero =>
      simp only [List.getElem?_cons_zero, Option.some.injEq] at ho
      subst ho
      exact ⟨r, rfl, by simpa [run] using hp⟩
    | succ j =>
      obtain ⟨r', g1, g2⟩ := h3 j o' (by simpa using ho)
      refine ⟨r', by simpa using g1, ?_⟩
      rw [show j0 + (j + 1) = j0 + 1 + j by omega]
      exact g2
theorem AW.drawnT {id : Nat} {tm : List AV} {Qx : XPost} (n1 m m2 b1 b2 : Nat) (X Y : Mem) (hb1 : (masks l []).getD m 0 = b1) (hb2 : (masks l []).getD m2 0 = b2) (hbb : b2.testBit m = true) (hmx : P.follows .mixedOrders = true) (hc : chkD l n1 = true) (hn : Nat.ble n1 l.length = true) (hm : Nat.blt m n1 = true) (hm2 : Nat.blt m2 n1 = true)
    (h : D2 P l.toArray E M X Y m m2 b1 b2 0 (l.take n1) tm (fun tm' => AL P l.toArray (l.drop n1) E tm' Y (Qx .normal))) : AW P (.region id l.toArray true) E tm M Qx := by
  intro a w Q hs hq
  have hn := Nat.le_of_ble_eq_true hn
  have hm : m < n1 := by have := Nat.le_of_ble_eq_true hm; omega
  have hm2 : m2 < n1 := by have := Nat.le_of_ble_eq_true hm2; omega
  obtain ⟨rs, h1, h2, h3⟩ := D2.data _ _ _ h
  have htl : (l.take n1).length = n1 := by rw [List.length_take]; omega
  refine wp_region_any hmx ?_
  obtain ⟨hd, Fx, β, hh, ho, hsl⟩ := hs
  have hdrew : ∀ {k : Nat}, ({ w with drawn := w.drawn + 1 } : World).heap[k]? = w.heap[k]? := rfl
  have hbel : Below w.heap.size w { w with drawn := w.drawn + 1 } := by exact (Below.refl w.heap.size w).drew
  obtain ⟨hh', mv⟩ := hh.step hbel
  rw [htl] at h2
  have e0 : MS2 M X Y m m2 (Array.replicate l.toArray.size false) = M := by
    have : ∀ q, (Array.replicate l.toArray.size false).getD q false = false := fun q => by
      rw [Array.getD_eq_getD_getElem?, Array.getElem?_replicate]
      split <;> rfl
    unfold MS2; rw [this, this]; rfl
  refine wpAny_chg2 (E := E) (M := M) (X := X) (Y := Y) (m := m) (m2 := m2) (rs := rs) (tm0 := tm) (chkD_ok hc) hn hm hm2 (by rw [hb2]; exact hbb) (by rw [h1, htl]) (fun j o hj ho => by
    obtain ⟨r, g1, g2⟩ := h3 j o (by rw [List.getElem?_take, if_pos hj]; exact ho)
    rw [Nat.zero_add, ← hb1, ← hb2] at g2
    exact ⟨r, g1, g2⟩) (fun a' w' hs' => h2 a' w' Q hs' fun tm' M' a2 w2 hx hs2 => hq _ _ _ _ _ hx hs2) _ _ _ _ ⟨by simp, fun j o hj => ?_, fun j hj => ?_, hd, Fx, β, by rw [e0]; exact hh', by rw [e0]; exact ⟨ho.mv.trans mv, Nat.le_trans ho.size hbel.size, ho.lim, ho.own⟩, hsl.1, fun t u hu => ⟨fun i o r hL => ?_, fun _ x hx => by rw [e0]; exact (hsl.2 t x u hx hu).mv mv⟩⟩ ?_
  · simp [Array.getD_eq_getD_getElem?, Array.getElem?_replicate] at hj
    split at hj <;> simp at hj
  · simp [Array.getD_eq_getD_getElem?, Array.getElem?_replicate] at hj
    split at hj <;> simp at hj
  · simp [Array.getD_eq_getD_getElem?, Array.getElem?_replicate] at hL
    split at hL <;> simp at hL
  · unfold cnt
    have := List.countP_le_length (p := fun b => !b) (l := (Array.replicate l.toArray.size false).toList)
    simpa using this
end
section
variable {P : Program} {E : Env} {tm tm' : List AV} {M X Y : Mem} {m m2 b1 b2 jj : Nat} {o : Oper} {ops : Array Oper} {rest : List Oper} {N : List AV → Prop} {r : AV}
theorem D2.nil (h : N tm) : D2 P ops E M X Y m m2 b1 b2 jj [] tm N := h
end
section
variable {E : Env} {tm tm' : List AV} {M X Y : Mem} {m m2 b1 b2 jj : Nat} {o : Oper} {ops : Array Oper} {rest : List Oper} {N : List AV → Prop} {r : AV}
theorem D2.q (hN : D2 Tryz.prog ops E M X Y m m2 b1 b2 (jj + 1) rest tm' N) (hj : Nat.beq jj m = false := by rfl) (hj2 : Nat.beq jj m2 = false := by rfl) (hg : o.guard = none := by rfl) (h : POp Tryz.prog o E (msk (o.looksAt ops) tm) M r M := by exact POp.qt) (h2 : POp Tryz.prog o E (msk (o.looksAt ops) tm) X r X := by exact POp.qt) (h3 : POp Tryz.prog o E (msk (o.looksAt ops) tm) Y r Y := by exact POp.qt) (e : dput tm o.dst r = tm' := by exact nrm) : D2 Tryz.prog ops E M X Y m m2 b1 b2 jj (o :: rest) tm N := by
  subst e
  exact ⟨r, .inr (.inr ⟨Nat.ne_of_beq_eq_false hj, Nat.ne_of_beq_eq_false hj2, by unfold GOp; rw [hg]; exact h, .inr (by unfold GOp; rw [hg]; exact h2), .inr (by unfold GOp; rw [hg]; exact h3)⟩), hN⟩
theorem D2.f1 (hN : D2 Tryz.prog ops E M X Y m m2 b1 b2 (jj + 1) rest tm' N) (hj : Nat.beq jj m = false := by rfl) (hj2 : Nat.beq jj m2 = false := by rfl) (hb : b1.testBit jj = true := by rfl) (hb2 : b2.testBit jj = true := by rfl) (hg : o.guard = none := by rfl) (h : POp Tryz.prog o E (msk (o.looksAt ops) tm) M r M := by exact POp.qt) (e : dput tm o.dst r = tm' := by exact nrm) : D2 Tryz.prog ops E M X Y m m2 b1 b2 jj (o :: rest) tm N := by
  subst e
  exact ⟨r, .inr (.inr ⟨Nat.ne_of_beq_eq_false hj, Nat.ne_of_beq_eq_false hj2, by unfold GOp; rw [hg]; exact h, .inl hb, .inl hb2⟩), hN⟩
theorem D2.f2 (hN : D2 Tryz.prog ops E M X Y m m2 b1 b2 (jj + 1) rest tm' N) (hj : Nat.beq jj m = false := by rfl) (hj2 : Nat.beq jj m2 = false := by rfl) (hb2 : b2.testBit jj = true := by rfl) (hg : o.guard = none := by rfl) (h : POp Tryz.prog o E (msk (o.looksAt ops) tm) M r M := by exact POp.qt) (h2 : POp Tryz.prog o E (msk (o.looksAt ops) tm) X r X := by exact POp.qt) (e : dput tm o.dst r = tm' := by exact nrm) : D2 Tryz.prog ops E M X Y m m2 b1 b2 jj (o :: rest) tm N := by
  subst e
  exact ⟨r, .inr (.inr ⟨Nat.ne_of_beq_eq_false hj, Nat.ne_of_beq_eq_false hj2, by unfold GOp; rw [hg]; exact h, .inr (by unfold GOp; rw [hg]; exact h2), .inl hb2⟩), hN⟩
theorem D2.s1 {M' : Mem} (hN : D2 Tryz.prog ops E M X Y m m2 b1 b2 (jj + 1) rest tm' N) (hj : Nat.beq jj m = true := by rfl) (hg : o.guard = none := by rfl) (h : POp Tryz.prog o E (msk (o.looksAt ops) tm) M r M' := by exact POp.mk) (hX : M' = X := by first | rfl | exact nrm) (e : dput tm o.dst r = tm' := by exact nrm) : D2 Tryz.prog ops E M X Y m m2 b1 b2 jj (o :: rest) tm N := by
  subst e
  exact ⟨r, .inl ⟨Nat.eq_of_beq_eq_true hj, hg, hX ▸ h⟩, hN⟩
theorem D2.s2 {M' : Mem} (hN : D2 Tryz.prog ops E M X Y m m2 b1 b2 (jj + 1) rest tm' N) (hj : Nat.beq jj m2 = true := by rfl) (hg : o.guard = none := by rfl) (h : POp Tryz.prog o E (msk (o.looksAt ops) tm) X r M' := by exact POp.mk) (hX : M' = Y := by first | rfl | exact nrm) (e : dput tm o.dst r = tm' := by exact nrm) : D2 Tryz.prog ops E M X Y m m2 b1 b2 jj (o :: rest) tm N := by
  subst e
  exact ⟨r, .inr (.inl ⟨Nat.eq_of_beq_eq_true hj, hg, hX ▸ h⟩), hN⟩
theorem AW.drT {l l1 l2 : List Oper} {id : Nat} {Qx : XPost} (n1 m m2 b1 b2 : Nat) (X Y : Mem) (h : D2 Tryz.prog l.toArray E M X Y m m2 b1 b2 0 l1 tm (fun tm' => AL Tryz.prog l.toArray l2 E tm' Y (Qx .normal))) (e1 : l.take n1 = l1 := by exact nrm) (e2 : l.drop n1 = l2 := by exact nrm) (hb1 : (masks l []).getD m 0 = b1 := by kernel_rfl) (hb2 : (masks l []).getD m2 0 = b2 := by kernel_rfl) (hbb : b2.testBit m = true := by rfl) (hmx : Tryz.prog.follows .mixedOrders = true := by kernel_rfl)
    (hc : chkD l n1 = true := by kernel_rfl) (hn : Nat.ble n1 l.length = true := by rfl) (hm : Nat.blt m n1 = true := by rfl) (hm2 : Nat.blt m2 n1 = true := by rfl) : AW Tryz.prog (.region id l.toArray true) E tm M Qx := AW.drawnT n1 m m2 b1 b2 X Y hb1 hb2 hbb hmx hc hn hm hm2 (by rw [e1, e2]; exact h)
end

end Go.Proofs.YtacbpfbelcdeiaaGreat.Abs

/- The walks of StepEdition. -/
namespace Go.Proofs.YtacbpfbelcdeiaaGreat.Abs
open Go.Proofs Go.RowKit
set_option linter.unusedVariables false
set_option linter.unusedSimpArgs false
set_option maxRecDepth 100000
set_option maxHeartbeats 2000000
attribute [local irreducible] OpA AL AW DL DLM DLR DLS QOp POp VCalls VCallsI
def edO (a : TAtlas) : TAtlas := { a with editions := addEd a.editions a.now (srcOf a.log) }
def edK (a : TAtlas) : Bool := addOk a.editions a.now (srcOf a.log)
theorem edO_gd {a : TAtlas} (h : a.gd) : (edO a).gd := ⟨h.1, h.2.1, ⟨addEd_len h.2.2.1.1, addEd_all h.2.2.1.2 (srcOf_len h.1.1) (srcOf_mem h.1.2)⟩, h.2.2.2⟩
theorem edO_sm {a : TAtlas} (h : a.sm) : (edO a).sm := ⟨h.1, h.2.1, ⟨addEd_len h.2.2.1, addEd_all h.2.2.2 (srcOf_len h.1.1) (srcOf_mem h.1.2)⟩⟩
theorem edn_i (a : TAtlas) (hgd : a.gd) : VCalls Tryz.prog 33 [.agg a.en] (fun r M => r = .tup [.agg (stp a (edO a) (edK a)).eo, B (stpB a (edO a) (edK a))] ∧ M = (stp a (edO a) (edK a)).rw) := by
  refine VB Tryz.func33 25 (fun E hE => ?_)
  have hgs := hgd.gs
  have hclA : Clo (.agg a.en) := Clo.agg a.clo_en
  have hclL : Clo (.ro 8 (a.log.map TEntry.en)) := clo_list TEntry.clo_en
  have hclV : Clo (.ro 3 (a.levels.map TLevel.en)) := clo_list TLevel.clo_en
  have hclE : Clo (.ro 3 (a.editions.map TEdition.en)) := clo_list TEdition.clo_en
  have hclS : Clo (.ro 5 ((srcOf a.log).map TFeature.en)) := clo_list TFeature.clo_en
  dsimp only [TAtlas.en]
  repeat' ((first
    | (refine iAL ?_; first | refine AL.any ?_ | refine AL.any (h := POp.O Tryz.func75 (hc := cpA_iX a (by assumption))) ?_ | refine AL.any (h := POp.G [2, 3, 6] Tryz.func76 (hc := stepped_iX a (edO a) (edK a) hgd (edO_gd hgd))) ?_ | refine AL.nil ?_)
    | ((with_reducible show DL ..); first | refine DL.any ?_ | refine DL.any (h := POp.O Tryz.func82 (hc := addEd_i a.editions a.now (srcOf a.log) hgd.2.2.1.1 hgd.2.2.1.2 (srcOf_len hgd.1.1) (srcOf_mem hgd.1.2))) ?_ | refine DL.any (h := POp.k Tryz.func83 (hc := src_i' a.log hgd.1.1 hgd.1.2)) ?_ | refine DL.nil ?_)
    | (refine iAW ?_; first | (refine AW.c0 ?_; constructor) | (refine' AW.drT (id := 2) 13 7 12 127 3071 _ _ ?_))
    | ((with_reducible show D2 _ _ _ _ _ _ _ _ _ _ _ _ _ _); first | refine D2.f1 ?_ | refine D2.f1 (h := POp.k Tryz.func83 (hc := src_i' a.log hgd.1.1 hgd.1.2)) ?_ | refine D2.s1 (h := POp.O Tryz.func82 (hc := addEd_i a.editions a.now (srcOf a.log) hgd.2.2.1.1 hgd.2.2.1.2 (srcOf_len hgd.1.1) (srcOf_mem hgd.1.2))) ?_ | refine D2.f2 ?_ | refine D2.s2 ?_ | refine D2.q ?_ | refine D2.nil ?_)) <;> (try dsimp only))
  all_goals first
    | (exact Fin.r2 [7, 8, 9] rfl (RV.cell (QOp.quietA TT_ok (by rfl))) (RV.tmp (by rfl)) ⟨rfl, rfl⟩)

theorem edn_s (a : TAtlas) (hgd : a.gd) : VCalls Tryz.prog 32 [.agg a.en] (fun r M => r = .tup [.agg (stp a (edO a) (edK a)).eo, B (stpB a (edO a) (edK a))] ∧ M = (stp a (edO a) (edK a)).rw) := by
  refine VB Tryz.func32 27 (fun E hE => ?_)
  have hgs := hgd.gs
  have hclA : Clo (.agg a.en) := Clo.agg a.clo_en
  have hclL : Clo (.ro 8 (a.log.map TEntry.en)) := clo_list TEntry.clo_en
  have hclV : Clo (.ro 3 (a.levels.map TLevel.en)) := clo_list TLevel.clo_en
  have hclE : Clo (.ro 3 (a.editions.map TEdition.en)) := clo_list TEdition.clo_en
  have hclS : Clo (.ro 5 ((srcOf a.log).map TFeature.en)) := clo_list TFeature.clo_en
  dsimp only [TAtlas.en]
  repeat' ((first
    | (refine iAL ?_; first | refine AL.any ?_ | refine AL.any (h := POp.O Tryz.func60 (hc := cpA_sX a (by assumption))) ?_ | refine AL.any (h := POp.G [2, 3, 6] Tryz.func73 (hc := stepped_sX a (edO a) (edK a) hgd (edO_gd hgd))) ?_ | refine AL.nil ?_)
    | ((with_reducible show DL ..); first | refine DL.any ?_ | refine DL.any (h := POp.O Tryz.func80 (hc := addEd_s a.editions a.now (srcOf a.log) hgd.2.2.1.1 hgd.2.2.1.2 (srcOf_len hgd.1.1) (srcOf_mem hgd.1.2))) ?_ | refine DL.any (h := POp.k Tryz.func81 (hc := src_s' a.log hgd.1.1 hgd.1.2)) ?_ | refine DL.nil ?_)
    | ((with_reducible show DLS ..); first | refine DLS.bef ?_ | refine DLS.any ?_ | refine DLS.st ?_ | refine DLS.bef (h := POp.O Tryz.func80 (hc := addEd_s a.editions a.now (srcOf a.log) hgd.2.2.1.1 hgd.2.2.1.2 (srcOf_len hgd.1.1) (srcOf_mem hgd.1.2))) ?_ | refine DLS.bef (h := POp.k Tryz.func81 (hc := src_s' a.log hgd.1.1 hgd.1.2)) ?_ | refine DLS.any (h := POp.O Tryz.func80 (hc := addEd_s a.editions a.now (srcOf a.log) hgd.2.2.1.1 hgd.2.2.1.2 (srcOf_len hgd.1.1) (srcOf_mem hgd.1.2))) (h2 := POp.O Tryz.func80 (hc := addEd_s a.editions a.now (srcOf a.log) hgd.2.2.1.1 hgd.2.2.1.2 (srcOf_len hgd.1.1) (srcOf_mem hgd.1.2))) ?_ | refine DLS.any (h := POp.k Tryz.func81 (hc := src_s' a.log hgd.1.1 hgd.1.2)) (h2 := POp.k Tryz.func81 (hc := src_s' a.log hgd.1.1 hgd.1.2)) ?_ | refine DLS.st (h := POp.O Tryz.func80 (hc := addEd_s a.editions a.now (srcOf a.log) hgd.2.2.1.1 hgd.2.2.1.2 (srcOf_len hgd.1.1) (srcOf_mem hgd.1.2))) ?_ | refine DLS.nil ?_)
    | (refine iAW ?_; first | (refine AW.c0 ?_; constructor) | (refine' AW.drS (id := 2) 12 7 127 _ ?_) | refine AW.dr (id := 2) 12 ?_)) <;> (try dsimp only))
  all_goals first
    | (exact Fin.r2 [7, 8, 9] rfl (RV.cell (QOp.quietA TT_ok (by rfl))) (RV.tmp (by rfl)) ⟨rfl, rfl⟩)

theorem edn_i' (a : TAtlas) (hgd : a.gd) : VCalls Tryz.prog 33 [.agg a.en] (fun r M => r = .tup [.agg (stp a (edO a) (edK a)).en, B (stpB a (edO a) (edK a))] ∧ M = []) := VCalls.frz (edn_i a hgd) (by exact VwL.cons (View.tup' vwlT) VwL.nil)
theorem edn_s' (a : TAtlas) (hgd : a.gd) : VCalls Tryz.prog 32 [.agg a.en] (fun r M => r = .tup [.agg (stp a (edO a) (edK a)).en, B (stpB a (edO a) (edK a))] ∧ M = []) := VCalls.frz (edn_s a hgd) (by exact VwL.cons (View.tup' vwlT) VwL.nil)
def levO (a : TAtlas) (v : List TLevel) : TAtlas := { a with levels := v }
theorem levO_gd {a : TAtlas} {v : List TLevel} (h : a.gd) (hv : v.length ≤ 1048576) : (levO a v).gd := ⟨h.1, hv, h.2.2⟩
theorem lev_i (a : TAtlas) (hgd : a.gd) (v : List TLevel) (hv : v.length ≤ 1048576) : VCalls Tryz.prog 27 [.agg a.en, .ro 3 (v.map TLevel.en)] (fun r M => r = .tup [.agg (stp a (levO a v) true).eo, B (stpB a (levO a v) true)] ∧ M = (stp a (levO a v) true).rw) := by
  refine VB Tryz.func27 15 (fun E hE => ?_)
  have hgs := hgd.gs
  have hclA : Clo (.agg a.en) := Clo.agg a.clo_en
  have hclL : Clo (.ro 8 (a.log.map TEntry.en)) := clo_list TEntry.clo_en
  have hclV : Clo (.ro 3 (a.levels.map TLevel.en)) := clo_list TLevel.clo_en
  have hclE : Clo (.ro 3 (a.editions.map TEdition.en)) := clo_list TEdition.clo_en
  have hclW : Clo (.ro 3 (v.map TLevel.en)) := clo_list TLevel.clo_en
  dsimp only [TAtlas.en]
  repeat' ((first
    | (refine iAL ?_; first | refine AL.any ?_ | refine AL.any (h := POp.O Tryz.func63 (hc := cloneLevel _ (by assumption))) ?_ | refine AL.any (h := POp.O Tryz.func75 (hc := cpA_iX a (by assumption))) ?_ | refine AL.any (h := POp.G [2, 6, 4] Tryz.func76 (hc := stepped_iX a (levO a v) true hgd (levO_gd hgd hv))) ?_ | refine AL.nil ?_)
    | (refine iAW ?_; first | (refine AW.c0 ?_; constructor))) <;> (try dsimp only))
  all_goals first
    | (exact Fin.r2 [7, 8, 9] rfl (RV.cell (QOp.quietA TT_ok (by rfl))) (RV.tmp (by rfl)) ⟨rfl, rfl⟩)

theorem lev_s (a : TAtlas) (hgd : a.gd) (v : List TLevel) (hv : v.length ≤ 1048576) : VCalls Tryz.prog 25 [.agg a.en, .ro 3 (v.map TLevel.en)] (fun r M => r = .tup [.agg (stp a (levO a v) true).eo, B (stpB a (levO a v) true)] ∧ M = (stp a (levO a v) true).rw) := by
  refine VB Tryz.func25 16 (fun E hE => ?_)
  have hgs := hgd.gs
  have hclA : Clo (.agg a.en) := Clo.agg a.clo_en
  have hclL : Clo (.ro 8 (a.log.map TEntry.en)) := clo_list TEntry.clo_en
  have hclV : Clo (.ro 3 (a.levels.map TLevel.en)) := clo_list TLevel.clo_en
  have hclE : Clo (.ro 3 (a.editions.map TEdition.en)) := clo_list TEdition.clo_en
  have hclW : Clo (.ro 3 (v.map TLevel.en)) := clo_list TLevel.clo_en
  dsimp only [TAtlas.en]
  repeat' ((first
    | (refine iAL ?_; first | refine AL.any ?_ | refine AL.any (h := POp.O Tryz.func60 (hc := cpA_sX a (by assumption))) ?_ | refine AL.any (h := POp.G [2, 6, 4] Tryz.func73 (hc := stepped_sX a (levO a v) true hgd (levO_gd hgd hv))) ?_ | refine AL.nil ?_)
    | (refine iAW ?_; first | (refine AW.c0 ?_; constructor))) <;> (try dsimp only))
  all_goals first
    | (exact Fin.r2 [7, 8, 9] rfl (RV.cell (QOp.quietA TT_ok (by rfl))) (RV.tmp (by rfl)) ⟨rfl, rfl⟩)

theorem lev_i' (a : TAtlas) (hgd : a.gd) (v : List TLevel) (hv : v.length ≤ 1048576) : VCalls Tryz.prog 27 [.agg a.en, .ro 3 (v.map TLevel.en)] (fun r M => r = .tup [.agg (stp a (levO a v) true).en, B (stpB a (levO a v) true)] ∧ M = []) := VCalls.frz (lev_i a hgd v hv) (by exact VwL.cons (View.tup' vwlT) VwL.nil)
theorem lev_s' (a : TAtlas) (hgd : a.gd) (v : List TLevel) (hv : v.length ≤ 1048576) : VCalls Tryz.prog 25 [.agg a.en, .ro 3 (v.map TLevel.en)] (fun r M => r = .tup [.agg (stp a (levO a v) true).en, B (stpB a (levO a v) true)] ∧ M = []) := VCalls.frz (lev_s a hgd v hv) (by exact VwL.cons (View.tup' vwlT) VwL.nil)
theorem levO_sm {a : TAtlas} {v : List TLevel} (h : a.sm) (hv : v.length ≤ 1048576) : (levO a v).sm := ⟨h.1, hv, h.2.2⟩
end Go.Proofs.YtacbpfbelcdeiaaGreat.Abs

/- A row of bytes out of a text, changed, and back into a text. -/
namespace Go.Proofs.YtacbpfbelcdeiaaGreat.Abs
open Go.Proofs Go.RowKit
set_option linter.unusedVariables false
set_option linter.unusedSimpArgs false
set_option maxRecDepth 100000
set_option maxHeartbeats 2000000
def SB (E : Env) (tm : List AV) (M : Mem) (ts : List Nat) (l : List UInt8) (a : Act) (w : World) : Prop :=
  ∃ (w0 : World) (k cap : Nat), Sim E tm M a w0 ∧ Below w0.heap.size w0 w ∧ w0.heap.size ≤ k ∧ (∀ j (hj : j < l.length), w.cell? ⟨k, j, none⟩ = some (.int .u8 (l[j].toNat : Int)) ∧ w.frozen? ⟨k, j, none⟩ = false) ∧ ∀ t ∈ ts, a.tmps[t]? = some (.slice (some ⟨k, 0, none⟩) l.length cap)
def WA (P : Program) (ops : Array Oper) (rest : List Oper) (I : Act → World → Prop) (Q : Exit → Act → World → Prop) : Prop := ∀ a w, I a w → wpList P ops Q rest a w
def WC (P : Program) (c : Code) (I : Act → World → Prop) (Q : Exit → Act → World → Prop) : Prop := ∀ a w, I a w → c.wp P Q a w
section
variable {P : Program} {E : Env} {tm tm' : List AV} {M : Mem} {ops : Array Oper} {o o2 : Oper} {rest : List Oper} {I : Act → World → Prop} {Q : Exit → Act → World → Prop} {ts : List Nat} {l : List UInt8}
theorem AW.raw {c : Code} {Qx : XPost} (h : ∀ Q : Exit → Act → World → Prop, (∀ e tm' M' a' w', Qx e tm' M' → Sim E tm' M' a' w' → Q e a' w') → WC P c (Sim E tm M) Q) : AW P c E tm M Qx := fun a w Q hs k => h Q k a w hs
theorem WC.seq {x y : Code} (h : WC P x I (Exit.then (y.wp P Q) Q)) : WC P (.seq x y) I Q := fun a w hi => wp_seq (h a w hi)
theorem WC.region {id : Nat} {l : List Oper} (h : WA P l.toArray l I Q) : WC P (.region id l.toArray false) I Q := fun a w hi => wp_region_lit (h a w hi)
theorem WC.of {c : Code} {Qx : XPost} (h : AW P c E tm M Qx) (hq : ∀ e tm' M' a' w', Qx e tm' M' → Sim E tm' M' a' w' → Q e a' w') : WC P c (Sim E tm M) Q := fun a w hs => h a w Q hs hq
theorem WA.of {N : NPost} (h : AL P ops rest E tm M N) (hn : ∀ tm' M' a' w', N tm' M' → Sim E tm' M' a' w' → Q .normal a' w') : WA P ops rest (Sim E tm M) Q := fun a w hs => h a w Q hs hn
theorem WA.nil (h : ∀ a w, I a w → Q .normal a w) : WA P ops [] I Q := fun a w hi => h a w hi
theorem WA.one {J : Act → World → Prop} (hg : o.guard = none) (h : ∀ a w, I a w → ∀ K : Act → World → Prop, (∀ a' w', J a' w' → K a' w') → o.wp P a w K Q) (hr : WA P ops rest J Q) : WA P ops (o :: rest) I Q :=
  fun a w hi => wpList_plain hg fun K hK => h a w hi K fun a' w' hj => hK a' w' (hr a' w' hj)
theorem WA.q {r : AV} (hg : o.guard = none) (h : POp P o E tm M r M) (e : dput tm o.dst r = tm') (hN : WA P ops rest (Sim E tm' M) Q) : WA P ops (o :: rest) (Sim E tm M) Q := by
  subst e
  refine WA.one hg (fun a w hs K hK => ?_) hN
  exact (OpA.pop (N := fun t2 M2 => t2 = dput tm o.dst r ∧ M2 = M) h ⟨rfl, rfl⟩) a w K Q hs fun tm2 M2 a2 w2 hx hs2 => by
    obtain ⟨rfl, rfl⟩ := hx
    exact hK a2 w2 hs2
theorem WA.qB {r : AV} {d : Nat} (hd : o.dst = some d) (hts : ts.all (fun t => !Nat.beq t d) = true) (hg : o.guard = none) (h : QOp P o tm M r) (e : dput tm o.dst r = tm') (hN : WA P ops rest (SB E tm' M ts l) Q) : WA P ops (o :: rest) (SB E tm M ts l) Q := by
  subst e
  refine WA.one hg (fun a w hs K hK => ?_) hN
  obtain ⟨w0, k, cap, ⟨hdf, Fx, β, hh, ho, hsl⟩, hb, hk, hc, ht⟩ := hs
  obtain ⟨v, hv, hr⟩ := h _ _ a w0 Fx β hh hsl
  have hrun := hv w hb.block
  unfold Oper.wp
  rw [hrun, Oper.upon_value]
  refine hK _ _ ⟨w0, k, cap, Sim.next hdf ho hsl hh Mv.refl (Nat.le_refl _) (fun q hq => .inl hq) (fun id b v q g1 g2 g3 => .inr ⟨id, b, v, g1, g2, g3⟩) o.dst hr, hb, hk, hc, fun t hm => ?_⟩
  rw [hd]
  have hne : t ≠ d := fun e => by
    have := List.all_eq_true.1 hts t hm
    rw [e] at this
    simp at this
  simp [Act.put, Array.getElem?_setIfInBounds, Ne.symm hne, ht t hm]
theorem WA.nilS {y : Code} (h : WC P y I Q) : WA P ops [] I (Exit.then (y.wp P Q) Q) := fun a w hi => h a w hi
theorem WA.ofS {y : Code} {Qx : XPost} (hQ : ∀ e tm' M' a' w', Qx e tm' M' → Sim E tm' M' a' w' → Q e a' w') (h : AL P ops rest E tm M (fun tm' M' => AW P y E tm' M' Qx)) : WA P ops rest (Sim E tm M) (Exit.then (y.wp P Q) Q) :=
  fun a w hs => h a w _ hs fun tm' M' a' w' hx hs' => hx a' w' Q hs' hQ
theorem WA.bytes {s t e : TypeId} {x : Operand} {str : ByteArray} {d : Nat} (ho : o.op = .convert s t x) (hs : P.underlying s = some .string) (ht : P.underlying t = some (.slice e)) (he : P.underlying e = some (.int .u8)) (hx : sc tm x = some (.string str)) (hd : o.dst = some d) (hdl : Nat.blt d tm.length = true) (hg : o.guard = none)
    (e2 : dput tm (some d) .any = tm') (hN : WA P ops rest (SB E tm' M [d] str.data.toList) Q) : WA P ops (o :: rest) (Sim E tm M) Q := by
  subst e2
  refine WA.one hg (fun a w hsim K hK => ?_) hN
  obtain ⟨hdf, Fx, β, hh, hout, hsl⟩ := hsim
  have hrun : (execOp a.eval o).run P w = .ok (.value (.slice (some ⟨w.heap.size, 0, none⟩) str.size (grownCap w str.size 0 e))) (Lib.bytesWorld w e str) := by
    simp [execOp, ho, hsl.sc hx, Lib.run_convert_string_bytes w s t e str hs ht he]
  unfold Oper.wp
  rw [hrun, Oper.upon_value, hd]
  have hl : str.data.toList.length = str.size := by simp
  refine hK _ _ ⟨w, w.heap.size, grownCap w str.size 0 e, Sim.next hdf hout hsl hh Mv.refl (Nat.le_refl _) (fun q hq => .inl hq) (fun id b v q g1 g2 g3 => .inr ⟨id, b, v, g1, g2, g3⟩) (some d) (.any _), ⟨rfl, rfl, rfl, by rw [Lib.bytesWorld_size]; omega, fun k hk => Lib.bytesWorld_at_old w e str k hk⟩, Nat.le_refl _, fun j hj => ⟨?_, ?_⟩, fun t hm => ?_⟩
  · rw [Lib.bytesWorld_cell w e str j (by omega)]
    simp [List.getD_eq_getElem?_getD, List.getElem?_eq_getElem hj]
  · have hlo : ¬ (Lib.bytesCells w e str).size ≤ j := by
      have : str.size ≤ (Lib.bytesCells w e str).size := by simp [Lib.bytesCells]
      omega
    simp [World.frozen?, Lib.bytesWorld_at_new, hlo]
  · obtain rfl := List.mem_singleton.1 hm
    have hlt : t < a.tmps.size := by rw [hsl.1]; have := Nat.le_of_ble_eq_true hdl; omega
    simp [Act.put, hlt]
theorem WA.mvB {t d : Nat} (ho : o.op = .assign (.tmp t) ∨ o.op = .move (.tmp t)) (ht : ts.any (fun q => Nat.beq q t) = true) (hd : o.dst = some d) (hdl : Nat.blt d tm.length = true) (hg : o.guard = none) (e : dput tm (some d) .any = tm') (hN : WA P ops rest (SB E tm' M (d :: ts) l) Q) : WA P ops (o :: rest) (SB E tm M ts l) Q := by
  subst e
  refine WA.one hg (fun a w hs K hK => ?_) hN
  obtain ⟨w0, k, cap, ⟨hdf, Fx, β, hh, hout, hsl⟩, hb, hk, hc, htt⟩ := hs
  have hmem : t ∈ ts := by
    obtain ⟨q, hq, e⟩ := List.any_eq_true.1 ht
    rw [← Nat.eq_of_beq_eq_true e]
    exact hq
  have hev : a.eval (.tmp t) = .slice (some ⟨k, 0, none⟩) l.length cap := by simp [Act.eval, htt t hmem]
  have hrun : (execOp a.eval o).run P w = .ok (.value (.slice (some ⟨k, 0, none⟩) l.length cap)) w := by
    rcases ho with ho | ho <;> simp [execOp, ho, hev]
  unfold Oper.wp
  rw [hrun, Oper.upon_value, hd]
  refine hK _ _ ⟨w0, k, cap, Sim.next hdf hout hsl hh Mv.refl (Nat.le_refl _) (fun q hq => .inl hq) (fun id b v q g1 g2 g3 => .inr ⟨id, b, v, g1, g2, g3⟩) (some d) (.any _), hb, hk, hc, fun q hm => ?_⟩
  have hlt : d < a.tmps.size := by rw [hsl.1]; have := Nat.le_of_ble_eq_true hdl; omega
  rcases List.mem_cons.1 hm with rfl | hm
  · simp [Act.put, hlt]
  · by_cases e : q = d
    · subst e; simp [Act.put, hlt]
    · simp [Act.put, Array.getElem?_setIfInBounds, Ne.symm e, htt q hm]
theorem WA.back {s t e : TypeId} {q : Nat} {v : ByteArray} (hvv : (⟨l.toArray⟩ : ByteArray) = v) (ho : o.op = .convert s t (.tmp q)) (hs : P.underlying s = some (.slice e)) (he : P.underlying e = some (.int .u8)) (ht : P.underlying t = some .string) (hq : ts.any (fun z => Nat.beq z q) = true) (hg : o.guard = none)
    (e2 : dput tm o.dst (.c (.string v)) = tm') (hN : WA P ops rest (Sim E tm' M) Q) : WA P ops (o :: rest) (SB E tm M ts l) Q := by
  subst e2 hvv
  refine WA.one hg (fun a w hsb K hK => ?_) hN
  obtain ⟨w0, k, cap, ⟨hdf, Fx, β, hh, hout, hsl⟩, hb, hk, hc, htt⟩ := hsb
  have hmem : q ∈ ts := by
    obtain ⟨z, hz, e⟩ := List.any_eq_true.1 hq
    rw [← Nat.eq_of_beq_eq_true e]
    exact hz
  have hev : a.eval (.tmp q) = .slice (some ⟨k, 0, none⟩) l.length cap := by simp [Act.eval, htt q hmem]
  have hcv := run_convert_bytes_back (P := P) w s t e ⟨k, 0, none⟩ cap l hs he ht (fun j hj => by
    rw [show (⟨k, 0, none⟩ : Addr).add j = ⟨k, j, none⟩ by simp [Addr.add]; omega]
    exact (hc j hj).1)
  have hrun : (execOp a.eval o).run P w = .ok (.value (.string ⟨l.toArray⟩)) w := by simp [execOp, ho, hev, hcv]
  unfold Oper.wp
  rw [hrun, Oper.upon_value]
  obtain ⟨hh', m⟩ := hh.step hb
  exact hK _ _ (Sim.next hdf hout hsl hh' m hb.size (fun q hq => .inl hq) (fun id b v q g1 g2 g3 => .inr ⟨id, b, v, g1, g2, g3⟩) o.dst (.c _))
theorem WA.setB {t te e : TypeId} {q p : Nat} {y z : Operand} {ky : IntKind} {n : Int} {c : UInt8} {vz : Value} (ho : o.op = .indexAddr t (.tmp q) y) (hd : o.dst = some p) (hg : o.guard = none) (hsl1 : slk P t = some (e, 1)) (hq : ts.any (fun z => Nat.beq z q) = true) (hy : sc tm y = some (.int ky n)) (h0 : 0 ≤ n) (hn : n.toNat < l.length)
    (hp : ts.all (fun t => !Nat.beq t p) = true) (ho2 : o2.op = .store te (.tmp p) z) (hd2 : o2.dst = none) (hg2 : o2.guard = none) (hte : (P.info? te).map (·.size) = some 1) (e2 : dput tm (some p) .any = tm') (hz : sc tm' z = some vz) (hv : vz = .int .u8 (c.toNat : Int)) (hpl : Nat.blt p tm.length = true)
    (hN : WA P ops rest (SB E tm' M ts (l.set n.toNat c)) Q) : WA P ops (o :: o2 :: rest) (SB E tm M ts l) Q := by
  subst e2
  refine WA.one (J := fun a w => SB E (dput tm (some p) .any) M ts l a w ∧ ∃ k cap, a.tmps[p]? = some (.pointer (some ⟨k, n.toNat, none⟩)) ∧ (∃ w0, Sim E (dput tm (some p) .any) M a w0 ∧ Below w0.heap.size w0 w ∧ w0.heap.size ≤ k ∧ (∀ j (hj : j < l.length), w.cell? ⟨k, j, none⟩ = some (.int .u8 (l[j].toNat : Int)) ∧ w.frozen? ⟨k, j, none⟩ = false) ∧ ∀ t ∈ ts, a.tmps[t]? = some (.slice (some ⟨k, 0, none⟩) l.length cap))) hg (fun a w hsb K hK => ?_) (WA.one hg2 (fun a w hsb K hK => ?_) hN)
  · obtain ⟨w0, k, cap, ⟨hdf, Fx, β, hh, hout, hsl⟩, hb, hk, hc, htt⟩ := hsb
    have hmem : q ∈ ts := by
      obtain ⟨z, hz, e⟩ := List.any_eq_true.1 hq
      rw [← Nat.eq_of_beq_eq_true e]
      exact hz
    have hev : a.eval (.tmp q) = .slice (some ⟨k, 0, none⟩) l.length cap := by simp [Act.eval, htt q hmem]
    obtain ⟨i0, hi0, hs0⟩ := info_size (slk_inv hsl1).2
    have h2 : n < (l.length : Int) := by omega
    have e : (⟨k, 0, none⟩ : Addr).add (n.toNat * 1) = ⟨k, n.toNat, none⟩ := by rw [Addr.add_mid, Nat.zero_add, Nat.mul_one]
    have hrun : (execOp a.eval o).run P w = .ok (.value (.pointer (some ⟨k, n.toNat, none⟩))) w := by
      simp [execOp, ho, hev, hsl.sc hy, Instr.indexAt, asIntOf, run_underlying (slk_inv hsl1).1, h0, h2, sizeOf, typeInfo, hi0, hs0]
      simpa using e
    unfold Oper.wp
    rw [hrun, Oper.upon_value, hd]
    have hsim : Sim E (dput tm (some p) .any) M (a.put (some p) (.pointer (some ⟨k, n.toNat, none⟩))) w0 := Sim.next hdf hout hsl hh Mv.refl (Nat.le_refl _) (fun q hq => .inl hq) (fun id b v q g1 g2 g3 => .inr ⟨id, b, v, g1, g2, g3⟩) (some p) (.any _)
    have hts : ∀ t ∈ ts, (a.put (some p) (.pointer (some ⟨k, n.toNat, none⟩))).tmps[t]? = some (.slice (some ⟨k, 0, none⟩) l.length cap) := fun t hm => by
      have hne : t ≠ p := fun e => by
        have := List.all_eq_true.1 hp t hm
        rw [e] at this
        simp at this
      simp [Act.put, Array.getElem?_setIfInBounds, Ne.symm hne, htt t hm]
    have hlt : p < a.tmps.size := by rw [hsl.1]; have := Nat.le_of_ble_eq_true hpl; omega
    exact hK _ _ ⟨⟨w0, k, cap, hsim, hb, hk, hc, hts⟩, k, cap, by simp [Act.put, hlt], w0, hsim, hb, hk, hc, hts⟩
  · obtain ⟨_, k, cap, hpp, w0, ⟨hdf, Fx, β, hh, hout, hsl⟩, hb, hk, hc, htt⟩ := hsb
    have hevp : a.eval (.tmp p) = .pointer (some ⟨k, n.toNat, none⟩) := by simp [Act.eval, hpp]
    have hevz := hsl.sc hz
    rw [hv] at hevz
    have hst := run_storeCells_cells (P := P) k n.toNat [.int .u8 (c.toNat : Int)] 0 w (fun j hj => by
      have e0 : j = 0 := by simp at hj; omega
      subst e0
      simpa using (hc n.toNat hn).1 ▸ rfl) (fun j hj => by
      have e0 : j = 0 := by simp at hj; omega
      subst e0
      simpa using (hc n.toNat hn).2) (fun v hm => by obtain rfl := List.mem_singleton.1 hm; rfl)
    obtain ⟨i0, hi0, hs0⟩ := info_size hte
    have hrun : (execOp a.eval o2).run P w = .ok .skip (w.setCells k n.toNat [.int .u8 (c.toNat : Int)]) := by
      simp only [Nat.add_zero] at hst
      have hcs : (Value.int .u8 (c.toNat : Int)).cells = #[.int .u8 (c.toNat : Int)] := rfl
      simp [execOp, ho2, hevp, hevz, Instr.storeAt, Instr.sureAddr, storeVar, sizeOf, typeInfo, hi0, hs0, hcs, hst]
    unfold Oper.wp
    rw [hrun, Oper.upon_skip, hd2]
    refine hK _ _ ⟨w0, k, cap, ⟨hdf, Fx, β, hh, hout, hsl⟩, hb.trans ?_, hk, fun j hj => ?_, fun t hm => by rw [List.length_set]; exact htt t hm⟩
    · refine ⟨rfl, rfl, rfl, by rw [size_setCells]; exact Nat.le_refl _, fun q hq => ?_⟩
      have hkq : k ≠ q := by omega
      simp [World.setCells, World.setCell, Array.getElem?_modify, hkq]
    · rw [List.length_set] at hj
      refine ⟨?_, by rw [World.frozen?_setCells]; exact (hc j hj).2⟩
      rw [List.getElem_set]
      by_cases e : n.toNat = j
      · subst e
        rw [if_pos rfl]
        have := World.cell?_setCells_in k [.int .u8 (c.toNat : Int)] n.toNat w (fun q hq => by
          have e0 : q = 0 := by simp at hq; omega
          subst e0
          rw [Nat.add_zero, (hc _ hj).1]
          rfl) 0 (by simp)
        simpa using this
      · rw [if_neg e, World.cell?_setCells_out k _ _ w _ (fun _ _ => by
          simp only [List.length_cons, List.length_nil]
          omega)]
        exact (hc j hj).1
end
theorem QOp.slice_h {P : Program} {o : Oper} {tm : List AV} {M : Mem} {t : TypeId} {x y : Operand} {s : ByteArray} {k : IntKind} {n : Int} (ho : o.op = .slice t x none (some y) none) (ht : P.underlying t = some .string) (hx : sc tm x = some (.string s)) (hy : sc tm y = some (.int k n)) (h0 : 0 ≤ n) (h1 : n ≤ (s.size : Int)) : QOp P o tm M (.c (.string (s.extract 0 n.toNat))) :=
  fun base w0 a w Fx β hhs hs => ⟨_, fun w' _ => by
    simp [execOp, ho, hs.sc hx, hs.sc hy, run_sliceAt_string, ht, run_slice_string_h w' t s ht k n h0 h1], .c _⟩
theorem QOp.slice_l {P : Program} {o : Oper} {tm : List AV} {M : Mem} {t : TypeId} {x y : Operand} {s : ByteArray} {k : IntKind} {n : Int} (ho : o.op = .slice t x (some y) none none) (ht : P.underlying t = some .string) (hx : sc tm x = some (.string s)) (hy : sc tm y = some (.int k n)) (h0 : 0 ≤ n) (h1 : n ≤ (s.size : Int)) : QOp P o tm M (.c (.string (s.extract n.toNat s.size))) :=
  fun base w0 a w Fx β hhs hs => ⟨_, fun w' _ => by
    simp [execOp, ho, hs.sc hx, hs.sc hy, run_sliceAt_string, ht, run_slice_string_l w' t s ht k n h0 h1], .c _⟩

end Go.Proofs.YtacbpfbelcdeiaaGreat.Abs

/- The walks of StepCover. -/
namespace Go.Proofs.YtacbpfbelcdeiaaGreat.Abs
open Go.Proofs Go.RowKit
set_option linter.unusedVariables false
set_option linter.unusedSimpArgs false
set_option maxRecDepth 100000
set_option maxHeartbeats 2000000
attribute [local irreducible] OpA AL AW DL DLM DLR DLS QOp POp VCalls VCallsI
def setB (s : ByteArray) (i : Nat) (t : ByteArray) : ByteArray := match t[0]? with
  | some b => ⟨(s.data.toList.set i b).toArray⟩
  | none => s
theorem setB_one {s : ByteArray} {i : Nat} {b : UInt8} {t : ByteArray} (h : t[0]? = some b) : setB s i t = ⟨(s.data.toList.set i b).toArray⟩ := by simp [setB, h]
theorem setB_size (s : ByteArray) (i : Nat) (t : ByteArray) : (setB s i t).size = s.size := by
  unfold setB
  split
  · show (Array.size _) = _
    rw [List.size_toArray, List.length_set, Array.length_toList]
    rfl
  · rfl
def covO (a : TAtlas) (cell : Int) (t : ByteArray) : TAtlas := { a with cover := ⟨a.cover.w, a.cover.h, setB a.cover.cells cell.toNat t⟩ }
def covK (a : TAtlas) (cell : Int) (t : ByteArray) : Bool := decide (0 ≤ cell) && decide (cell < (a.cover.cells.size : Int)) && (t.size == 1)
theorem covO_gd {a : TAtlas} {cell : Int} {t : ByteArray} (h : a.gd) : (covO a cell t).gd := ⟨h.1, h.2.1, h.2.2.1, by
  show (setB _ _ _).size ≤ maxLen
  rw [setB_size]
  exact h.2.2.2⟩
theorem covO_sm {a : TAtlas} {cell : Int} {t : ByteArray} (h : a.sm) : (covO a cell t).sm := h
theorem one_get {t : ByteArray} (h : t.size = 1) : ∃ b, t[0]? = some b ∧ t = ⟨#[b]⟩ := by
  obtain ⟨d⟩ := t
  have h : d.size = 1 := h
  obtain ⟨b, rfl⟩ : ∃ b, d = #[b] := Array.size_eq_one_iff.1 h
  exact ⟨b, rfl, rfl⟩
theorem cov_f {a : TAtlas} {cell : Int} {t : ByteArray} (h : (decide (cell < 0) || decide (cell ≥ (a.cover.cells.size : Int)) || (t.size : Int) != 1) = true) : covK a cell t = false := by
  unfold covK
  simp only [Bool.or_eq_true, decide_eq_true_eq, bne_iff_ne, ne_eq] at h
  rcases h with (h | h) | h
  · rw [decide_eq_false (by omega : ¬ 0 ≤ cell)]; rfl
  · rw [decide_eq_false (by omega : ¬ cell < (a.cover.cells.size : Int))]; simp
  · have : (t.size == 1) = false := by simp; omega
    rw [this, Bool.and_false]
theorem cov_t {a : TAtlas} {cell : Int} {t : ByteArray} (h : (decide (cell < 0) || decide (cell ≥ (a.cover.cells.size : Int)) || (t.size : Int) != 1) = false) : 0 ≤ cell ∧ cell.toNat < a.cover.cells.data.toList.length ∧ t.size = 1 ∧ covK a cell t = true := by
  simp only [Bool.or_eq_false_iff, decide_eq_false_iff_not, bne_eq_false_iff_eq] at h
  obtain ⟨⟨h1, h2⟩, h3⟩ := h
  have e : a.cover.cells.data.toList.length = a.cover.cells.size := by rw [Array.length_toList]; rfl
  refine ⟨by omega, by rw [e]; omega, by omega, ?_⟩
  unfold covK
  rw [decide_eq_true (by omega), decide_eq_true (by omega), show t.size = 1 by omega]
  rfl
theorem setB_get {s t : ByteArray} {i : Nat} {b : UInt8} (h : t[0]? = some b) (hi : i < s.size) : (setB s i t)[i]? = some b := by
  rw [setB_one h]
  have hl : i < (s.data.toList.set i b).toArray.size := by simpa using hi
  have e : (⟨(s.data.toList.set i b).toArray⟩ : ByteArray)[i]? = (s.data.toList.set i b).toArray[i]? := by
    have hs : i < (⟨(s.data.toList.set i b).toArray⟩ : ByteArray).size := hl
    rw [getElem?_pos _ i hs, getElem?_pos _ i hl]
    rfl
  rw [e, List.getElem?_toArray, List.getElem?_set_self (by simpa using hi)]
theorem setB_cut {s t : ByteArray} {i : Nat} (h1 : t.size = 1) (hi : i < s.size) : s.extract 0 i ++ t ++ s.extract (i + 1) s.size = setB s i t := by
  obtain ⟨b, hb, rfl⟩ := one_get h1
  rw [setB_one hb]
  obtain ⟨d⟩ := s
  have hi : i < d.size := hi
  apply ByteArray.ext
  simp only [ByteArray.data_append, ByteArray.data_extract]
  apply Array.ext'
  simp only [Array.toList_append, Array.toList_extract]
  rw [List.set_eq_take_append_cons_drop, if_pos (by simpa using hi)]
  simp [ByteArray.size]
  exact List.take_of_length_le (by simp)
theorem nm_one {t : ByteArray} {b : UInt8} (h : t[0]? = some b) (h1 : t.size = 1) : isName t = nmAt t 0 := by
  unfold isName
  rw [h1]
  simp [nmTo, inr]
theorem cov_name {a : TAtlas} {cell : Int} {t : ByteArray} {ok : Bool} (h1 : t.size = 1) (hc : 0 ≤ cell) (hi : cell < (a.cover.cells.size : Int)) (hn : isName t = false) : stpB a (covO a cell t) ok = false := by
  obtain ⟨b, hb, _⟩ := one_get h1
  rw [nm_one hb h1, nmAt_some hb] at hn
  have hg := setB_get (s := a.cover.cells) (i := cell.toNat) hb (by omega)
  have h2 : covTo (setB a.cover.cells cell.toNat t) (setB a.cover.cells cell.toNat t).size = false := covTo_not (i := cell.toNat) (by rw [covAt_some hg]; exact hn) (by rw [setB_size]; omega)
  unfold stpB isAtl atlIn isCover covO
  rw [h2]
  simp
theorem covS_cases {a : TAtlas} {cell : Int} {t : ByteArray} (hsz : a.cover.cells.size ≤ maxLen) (hts : t.size ≤ maxLen) :
    ((!inr cell 0 (IntKind.i64.wrap ((a.cover.cells.size : Int) - 1)) || (t.size : Int) != 1 || !isName t) = true ∧ stpB a (covO a cell t) (covK a cell t) = false) ∨
    ((!inr cell 0 (IntKind.i64.wrap ((a.cover.cells.size : Int) - 1)) || (t.size : Int) != 1 || !isName t) = false ∧ covK a cell t = true ∧ 0 ≤ cell ∧ cell ≤ (a.cover.cells.size : Int) ∧ 0 ≤ IntKind.i64.wrap (cell + 1) ∧ IntKind.i64.wrap (cell + 1) ≤ (a.cover.cells.size : Int) ∧
      (a.cover.cells.extract 0 cell.toNat).size + t.size ≤ 9223372036854775807 ∧ (a.cover.cells.extract 0 cell.toNat ++ t).size + (a.cover.cells.extract (IntKind.i64.wrap (cell + 1)).toNat a.cover.cells.size).size ≤ 9223372036854775807 ∧
      a.cover.cells.extract 0 cell.toNat ++ t ++ a.cover.cells.extract (IntKind.i64.wrap (cell + 1)).toNat a.cover.cells.size = setB a.cover.cells cell.toNat t) := by
  rw [maxLen_eq] at hsz hts
  have e1 : IntKind.i64.wrap ((a.cover.cells.size : Int) - 1) = (a.cover.cells.size : Int) - 1 := w64 (by omega) (by omega)
  rw [e1]
  by_cases hr : 0 ≤ cell ∧ cell < (a.cover.cells.size : Int)
  · have hi : inr cell 0 ((a.cover.cells.size : Int) - 1) = true := by simp [inr]; omega
    rw [hi]
    by_cases h1 : t.size = 1
    · have e2 : ((t.size : Int) != 1) = false := by rw [h1]; rfl
      have hK : covK a cell t = true := by
        unfold covK
        rw [decide_eq_true hr.1, decide_eq_true hr.2, h1]
        rfl
      rw [e2]
      cases hn : isName t
      · exact .inl ⟨rfl, cov_name h1 hr.1 hr.2 hn⟩
      · have e3 : IntKind.i64.wrap (cell + 1) = cell + 1 := w64 (by omega) (by omega)
        rw [e3]
        refine .inr ⟨rfl, hK, hr.1, by omega, by omega, by omega, ?_, ?_, ?_⟩
        · rw [ByteArray.size_extract]; omega
        · rw [ByteArray.size_append, ByteArray.size_extract, ByteArray.size_extract]; omega
        · rw [show (cell + 1).toNat = cell.toNat + 1 by omega]
          exact setB_cut h1 (by omega)
    · have e2 : ((t.size : Int) != 1) = true := by simp; omega
      rw [e2]
      refine .inl ⟨by simp, ?_⟩
      have : (t.size == 1) = false := by simp; exact h1
      unfold stpB covK
      rw [this]
      simp
  · have hi : inr cell 0 ((a.cover.cells.size : Int) - 1) = false := by simp [inr]; omega
    rw [hi]
    refine .inl ⟨by simp, ?_⟩
    have : (decide (0 ≤ cell) && decide (cell < (a.cover.cells.size : Int))) = false := by simp; omega
    unfold stpB covK
    rw [this]
    simp

theorem cov_i (a : TAtlas) (hgd : a.gd) (cell : Int) (t : ByteArray) (hts : t.size ≤ maxLen) : VCalls Tryz.prog 31 [.agg a.en, I cell, S t] (fun r M => r = .tup [.agg (stp a (covO a cell t) (covK a cell t)).eo, B (stpB a (covO a cell t) (covK a cell t))] ∧ M = (stp a (covO a cell t) (covK a cell t)).rw) := by
  refine VB Tryz.func31 43 (fun E hE => ?_)
  have hgs := hgd.gs
  have hclA : Clo (.agg a.en) := Clo.agg a.clo_en
  have hclL : Clo (.ro 8 (a.log.map TEntry.en)) := clo_list TEntry.clo_en
  have hclV : Clo (.ro 3 (a.levels.map TLevel.en)) := clo_list TLevel.clo_en
  have hclE : Clo (.ro 3 (a.editions.map TEdition.en)) := clo_list TEdition.clo_en
  dsimp only [TAtlas.en]
  repeat' ((first
    | (refine iAL ?_; first | refine AL.any ?_ | refine AL.any (h := POp.O Tryz.func75 (hc := cpA_iX a (by assumption))) ?_ | refine AL.any (h := POp.G [2, 3, 4] Tryz.func76 (hc := stepped_iX a (covO a cell t) true hgd (covO_gd hgd))) ?_ | refine AL.U ?_ | refine AL.F ?_ | refine AL.T ?_ | refine AL.W ?_ | refine AL.nil ?_)
    | (refine iAW ?_; first | (refine AW.raw (fun Q hQ => WC.seq (WC.region (id := 4) ?_)); obtain ⟨hc0, hc1, hc2, hk⟩ := cov_t h; obtain ⟨b, hb, hb2⟩ := one_get hc2; refine WA.q rfl (by exact POp.qt) (by exact nrm) ?_; refine WA.q rfl (by exact POp.qt) (by exact nrm) ?_; refine WA.q rfl (by exact POp.qt) (by exact nrm) ?_; refine WA.bytes rfl Tryz.underlying9 Tryz.underlying110 Tryz.underlying5 (by rfl) rfl rfl rfl (by exact nrm) ?_; refine WA.mvB (.inl rfl) rfl rfl rfl rfl (by exact nrm) ?_; refine WA.nilS ?_; refine WC.seq (WC.region ?_); refine WA.mvB (.inr rfl) rfl rfl rfl rfl (by exact nrm) ?_; refine WA.qB rfl rfl rfl (QOp.quietA TT_ok (by rfl)) (by exact nrm) ?_; refine WA.qB rfl rfl rfl (QOp.quietA TT_ok (by rfl)) (by exact nrm) ?_; refine WA.qB rfl rfl rfl (QOp.index_str (by rfl) Tryz.underlying9 (by rfl) (by rfl) (by decide) hb) (by exact nrm) ?_; refine WA.setB rfl rfl rfl slk110 rfl (by rfl) hc0 hc1 rfl rfl rfl rfl (by obtain ⟨d, _, _, h3⟩ := ldk_inv ldk5; exact h3) (by exact nrm) (by rfl) rfl rfl ?_; refine WA.nilS ?_; refine WC.seq (WC.region ?_); refine WA.mvB (.inr rfl) rfl rfl rfl rfl (by exact nrm) ?_; refine WA.back (setB_one hb).symm rfl Tryz.underlying110 Tryz.underlying5 Tryz.underlying9 rfl rfl (by exact nrm) ?_; refine WA.ofS hQ ?_) | (refine AW.c0 ?_; constructor) | refine AW.cT ?_ | refine AW.cF ?_ | (refine AW.c2 ?_ ?_ <;> (intro h; try simp only [bT, bF] at h)))) <;> (try dsimp only))
  all_goals first
    | (rw [hk]; exact Fin.r2 [6, 7, 8] rfl (RV.cell (QOp.quietA TT_ok (by rfl))) (RV.tmp (by rfl)) ⟨rfl, rfl⟩)
    | ((have hk := cov_f h); rw [stp_f (by rw [hk]; rfl), (by rw [hk]; rfl : stpB a (covO a cell t) (covK a cell t) = false)]; exact Fin.r2 [2, 3, 4] rfl (RV.cell (QOp.quietA TT_ok (by rfl))) (RV.tmp (by rfl)) ⟨rfl, rfl⟩)

theorem cov_s (a : TAtlas) (hgd : a.gd) (cell : Int) (t : ByteArray) (hts : t.size ≤ maxLen) : VCalls Tryz.prog 30 [.agg a.en, I cell, S t] (fun r M => r = .tup [.agg (stp a (covO a cell t) (covK a cell t)).eo, B (stpB a (covO a cell t) (covK a cell t))] ∧ M = (stp a (covO a cell t) (covK a cell t)).rw) := by
  refine VB Tryz.func30 48 (fun E hE => ?_)
  have hgs := hgd.gs
  have hclA : Clo (.agg a.en) := Clo.agg a.clo_en
  have hclL : Clo (.ro 8 (a.log.map TEntry.en)) := clo_list TEntry.clo_en
  have hclV : Clo (.ro 3 (a.levels.map TLevel.en)) := clo_list TLevel.clo_en
  have hclE : Clo (.ro 3 (a.editions.map TEdition.en)) := clo_list TEdition.clo_en
  rcases covS_cases (a := a) (cell := cell) (t := t) hgd.2.2.2 hts with ⟨hcn, hst⟩ | ⟨hcn, hk, hc0, hc1, hw0, hw1, hs1, hs2, hset⟩
  dsimp only [TAtlas.en]
  repeat' ((first
    | (refine iAL ?_; first | refine AL.any ?_ | refine AL.any (h := POp.O Tryz.func60 (hc := cpA_sX a (by assumption))) ?_ | refine AL.any (h := POp.G [2, 3, 4] Tryz.func73 (hc := stepped_sX a (covO a cell t) true hgd (covO_gd hgd))) ?_ | refine AL.any (h := POp.k Tryz.func77 (hc := inr_s _ _ _)) ?_ | refine AL.U ?_ | refine AL.F ?_ | refine AL.T ?_ | refine AL.T (h := POp.k Tryz.func79 (hc := isName_s t hts)) ?_ | refine AL.W ?_ | refine AL.W (h := fun h => by (try rw [h]); exact POp.k Tryz.func79 (hc := isName_s t hts)) ?_ | refine AL.nil ?_)
    | ((with_reducible show DL ..); first | refine DL.any ?_ | refine DL.nil ?_)
    | (refine iAW ?_; first | (rw [hset]) | (refine AW.c0 ?_; constructor) | refine AW.dr (id := 4) 13 ?_ | refine AW.cT ?_ | refine AW.cF ?_ | (refine AW.c2 ?_ ?_ <;> (intro h; try simp only [bT, bF] at h)))
    | ((with_reducible show DL _ _ _ _ _ _ _); first | refine DL.any (h := POp.quiet (QOp.slice_h (by rfl) Tryz.underlying9 (by rfl) (by rfl) (by assumption) (by assumption))) ?_ | refine DL.any (h := POp.quiet (QOp.slice_l (by rfl) Tryz.underlying9 (by rfl) (by rfl) (by assumption) (by assumption))) ?_)) <;> (try dsimp only))
  all_goals first
    | (rw [hk]; exact Fin.r2 [6, 7, 8] rfl (RV.cell (QOp.quietA TT_ok (by rfl))) (RV.tmp (by rfl)) ⟨rfl, rfl⟩)
    | (rw [stp_f hst, hst]; exact Fin.r2 [2, 3, 4] rfl (RV.cell (QOp.quietA TT_ok (by rfl))) (RV.tmp (by rfl)) ⟨rfl, rfl⟩)

theorem cov_i' (a : TAtlas) (hgd : a.gd) (cell : Int) (t : ByteArray) (hts : t.size ≤ maxLen) : VCalls Tryz.prog 31 [.agg a.en, I cell, S t] (fun r M => r = .tup [.agg (stp a (covO a cell t) (covK a cell t)).en, B (stpB a (covO a cell t) (covK a cell t))] ∧ M = []) := VCalls.frz (cov_i a hgd cell t hts) (by exact VwL.cons (View.tup' vwlT) VwL.nil)
theorem cov_s' (a : TAtlas) (hgd : a.gd) (cell : Int) (t : ByteArray) (hts : t.size ≤ maxLen) : VCalls Tryz.prog 30 [.agg a.en, I cell, S t] (fun r M => r = .tup [.agg (stp a (covO a cell t) (covK a cell t)).en, B (stpB a (covO a cell t) (covK a cell t))] ∧ M = []) := VCalls.frz (cov_s a hgd cell t hts) (by exact VwL.cons (View.tup' vwlT) VwL.nil)
def tickO (a : TAtlas) (n : Int) : TAtlas := { a with now := IntKind.i64.wrap (a.now + n) }
theorem tickO_gd {a : TAtlas} {n : Int} (h : a.gd) : (tickO a n).gd := h
theorem tick_f {a : TAtlas} {n : Int} (h : (!inr n 1 1000 || !inr a.now 0 100000) = true) : stpB a (tickO a n) (inr n 1 1000) = false := by
  unfold stpB isAtl atlIn
  revert h
  cases inr n 1 1000 <;> cases inr a.now 0 100000 <;> simp
theorem tick_t {a : TAtlas} {n : Int} (h : (!inr n 1 1000 || !inr a.now 0 100000) = false) : inr n 1 1000 = true := by
  revert h
  cases inr n 1 1000 <;> simp
theorem tick_i (a : TAtlas) (hgd : a.gd) (n : Int) : VCalls Tryz.prog 29 [.agg a.en, I n] (fun r M => r = .tup [.agg (stp a (tickO a n) (inr n 1 1000)).eo, B (stpB a (tickO a n) (inr n 1 1000))] ∧ M = (stp a (tickO a n) (inr n 1 1000)).rw) := by
  refine VB Tryz.func29 19 (fun E hE => ?_)
  have hgs := hgd.gs
  have hclA : Clo (.agg a.en) := Clo.agg a.clo_en
  have hclL : Clo (.ro 8 (a.log.map TEntry.en)) := clo_list TEntry.clo_en
  have hclV : Clo (.ro 3 (a.levels.map TLevel.en)) := clo_list TLevel.clo_en
  have hclE : Clo (.ro 3 (a.editions.map TEdition.en)) := clo_list TEdition.clo_en
  dsimp only [TAtlas.en]
  repeat' ((first
    | (refine iAL ?_; first | refine AL.any ?_ | refine AL.any (h := POp.O Tryz.func75 (hc := cpA_iX a (by assumption))) ?_ | refine AL.nil ?_)
    | ((with_reducible show DL ..); first | refine DL.any ?_ | refine DL.any (h := POp.G [2, 3, 4] Tryz.func76 (hc := stepped_iX a (tickO a n) (inr n 1 1000) hgd (tickO_gd hgd))) ?_ | refine DL.any (h := POp.k Tryz.func78 (hc := inr_v _ _ _)) ?_ | refine DL.nil ?_)
    | ((with_reducible show DLS ..); first | refine DLS.bef ?_ | refine DLS.any ?_ | refine DLS.st ?_ | refine DLS.bef (h := POp.G [2, 3, 4] Tryz.func76 (hc := stepped_iX a (tickO a n) (inr n 1 1000) hgd (tickO_gd hgd))) ?_ | refine DLS.bef (h := POp.k Tryz.func78 (hc := inr_v _ _ _)) ?_ | refine DLS.any (h := POp.G [2, 3, 4] Tryz.func76 (hc := stepped_iX a (tickO a n) (inr n 1 1000) hgd (tickO_gd hgd))) (h2 := POp.G [2, 3, 4] Tryz.func76 (hc := stepped_iX a (tickO a n) (inr n 1 1000) hgd (tickO_gd hgd))) ?_ | refine DLS.any (h := POp.k Tryz.func78 (hc := inr_v _ _ _)) (h2 := POp.k Tryz.func78 (hc := inr_v _ _ _)) ?_ | refine DLS.st (h := POp.G [2, 3, 4] Tryz.func76 (hc := stepped_iX a (tickO a n) (inr n 1 1000) hgd (tickO_gd hgd))) ?_ | refine DLS.nil ?_)
    | (refine iAW ?_; first | (refine AW.c0 ?_; constructor) | (refine' AW.drS (id := 3) 7 4 15 _ ?_) | refine AW.dr (id := 3) 7 ?_)) <;> (try dsimp only))
  all_goals first
    | (exact Fin.r2 [6, 7, 8] rfl (RV.cell (QOp.quietA TT_ok (by rfl))) (RV.tmp (by rfl)) ⟨rfl, rfl⟩)
    | ((have hnr := tick_t (by assumption)); rw [hnr]; exact Fin.r2 [6, 7, 8] rfl (RV.cell (QOp.quietA TT_ok (by rfl))) (RV.tmp (by rfl)) ⟨rfl, rfl⟩)
    | ((have hst := tick_f (by assumption)); rw [stp_f hst, hst]; exact Fin.r2 [2, 3, 4] rfl (RV.cell (QOp.quietA TT_ok (by rfl))) (RV.tmp (by rfl)) ⟨rfl, rfl⟩)

theorem tick_s (a : TAtlas) (hgd : a.gd) (n : Int) : VCalls Tryz.prog 28 [.agg a.en, I n] (fun r M => r = .tup [.agg (stp a (tickO a n) (inr n 1 1000)).eo, B (stpB a (tickO a n) (inr n 1 1000))] ∧ M = (stp a (tickO a n) (inr n 1 1000)).rw) := by
  refine VB Tryz.func28 27 (fun E hE => ?_)
  have hgs := hgd.gs
  have hclA : Clo (.agg a.en) := Clo.agg a.clo_en
  have hclL : Clo (.ro 8 (a.log.map TEntry.en)) := clo_list TEntry.clo_en
  have hclV : Clo (.ro 3 (a.levels.map TLevel.en)) := clo_list TLevel.clo_en
  have hclE : Clo (.ro 3 (a.editions.map TEdition.en)) := clo_list TEdition.clo_en
  dsimp only [TAtlas.en]
  repeat' ((first
    | (refine iAL ?_; first | refine AL.any ?_ | refine AL.any (h := POp.O Tryz.func60 (hc := cpA_sX a (by assumption))) ?_ | refine AL.any (h := POp.G [2, 3, 4] Tryz.func73 (hc := stepped_sX a (tickO a n) true hgd (tickO_gd hgd))) ?_ | refine AL.any (h := POp.k Tryz.func77 (hc := inr_s _ _ _)) ?_ | refine AL.U ?_ | refine AL.F ?_ | refine AL.T ?_ | refine AL.T (h := POp.k Tryz.func77 (hc := inr_s _ _ _)) ?_ | refine AL.W ?_ | refine AL.W (h := fun h => by (try rw [h]); exact POp.k Tryz.func77 (hc := inr_s _ _ _)) ?_ | refine AL.nil ?_)
    | (refine iAW ?_; first | (refine AW.c0 ?_; constructor) | refine AW.cT ?_ | refine AW.cF ?_ | (refine AW.c2 ?_ ?_ <;> (intro h; try simp only [bT, bF] at h)))) <;> (try dsimp only))
  all_goals first
    | (exact Fin.r2 [6, 7, 8] rfl (RV.cell (QOp.quietA TT_ok (by rfl))) (RV.tmp (by rfl)) ⟨rfl, rfl⟩)
    | ((have hnr := tick_t (by assumption)); rw [hnr]; exact Fin.r2 [6, 7, 8] rfl (RV.cell (QOp.quietA TT_ok (by rfl))) (RV.tmp (by rfl)) ⟨rfl, rfl⟩)
    | ((have hst := tick_f (by assumption)); rw [stp_f hst, hst]; exact Fin.r2 [2, 3, 4] rfl (RV.cell (QOp.quietA TT_ok (by rfl))) (RV.tmp (by rfl)) ⟨rfl, rfl⟩)

theorem tick_i' (a : TAtlas) (hgd : a.gd) (n : Int) : VCalls Tryz.prog 29 [.agg a.en, I n] (fun r M => r = .tup [.agg (stp a (tickO a n) (inr n 1 1000)).en, B (stpB a (tickO a n) (inr n 1 1000))] ∧ M = []) := VCalls.frz (tick_i a hgd n) (by exact VwL.cons (View.tup' vwlT) VwL.nil)
theorem tick_s' (a : TAtlas) (hgd : a.gd) (n : Int) : VCalls Tryz.prog 28 [.agg a.en, I n] (fun r M => r = .tup [.agg (stp a (tickO a n) (inr n 1 1000)).en, B (stpB a (tickO a n) (inr n 1 1000))] ∧ M = []) := VCalls.frz (tick_s a hgd n) (by exact VwL.cons (View.tup' vwlT) VwL.nil)
def apO (a : TAtlas) (e : TEvent) : TAtlas × Bool := if (e.kind == 1) = true then ((logO a (putE a e.feature e.who)), (logK a (putE a e.feature e.who))) else if (e.kind == 2) = true then ((tkO a e.id e.who), (tkK a e.id e.who)) else if (e.kind == 3) = true then ((mrgO a e.log), (isLog e.log)) else if (e.kind == 4) = true then ((edO a), (edK a)) else if (e.kind == 5) = true then ((levO a e.levels), true) else if (e.kind == 6) = true then ((covO a e.id e.letter), (covK a e.id e.letter)) else if (e.kind == 7) = true then ((tickO a e.id), (inr e.id 1 1000)) else (a, false)
theorem ap_1 {a : TAtlas} {e : TEvent} (h1 : (e.kind == 1) = true) : apO a e = ((logO a (putE a e.feature e.who)), (logK a (putE a e.feature e.who))) := by unfold apO; rw [if_pos h1]
theorem ap_2 {a : TAtlas} {e : TEvent} (h1 : (e.kind == 1) = false) (h2 : (e.kind == 2) = true) : apO a e = ((tkO a e.id e.who), (tkK a e.id e.who)) := by unfold apO; rw [if_neg (by rw [h1]; decide), if_pos h2]
theorem ap_3 {a : TAtlas} {e : TEvent} (h1 : (e.kind == 1) = false) (h2 : (e.kind == 2) = false) (h3 : (e.kind == 3) = true) : apO a e = ((mrgO a e.log), (isLog e.log)) := by unfold apO; rw [if_neg (by rw [h1]; decide), if_neg (by rw [h2]; decide), if_pos h3]
theorem ap_4 {a : TAtlas} {e : TEvent} (h1 : (e.kind == 1) = false) (h2 : (e.kind == 2) = false) (h3 : (e.kind == 3) = false) (h4 : (e.kind == 4) = true) : apO a e = ((edO a), (edK a)) := by unfold apO; rw [if_neg (by rw [h1]; decide), if_neg (by rw [h2]; decide), if_neg (by rw [h3]; decide), if_pos h4]
theorem ap_5 {a : TAtlas} {e : TEvent} (h1 : (e.kind == 1) = false) (h2 : (e.kind == 2) = false) (h3 : (e.kind == 3) = false) (h4 : (e.kind == 4) = false) (h5 : (e.kind == 5) = true) : apO a e = ((levO a e.levels), true) := by unfold apO; rw [if_neg (by rw [h1]; decide), if_neg (by rw [h2]; decide), if_neg (by rw [h3]; decide), if_neg (by rw [h4]; decide), if_pos h5]
theorem ap_6 {a : TAtlas} {e : TEvent} (h1 : (e.kind == 1) = false) (h2 : (e.kind == 2) = false) (h3 : (e.kind == 3) = false) (h4 : (e.kind == 4) = false) (h5 : (e.kind == 5) = false) (h6 : (e.kind == 6) = true) : apO a e = ((covO a e.id e.letter), (covK a e.id e.letter)) := by unfold apO; rw [if_neg (by rw [h1]; decide), if_neg (by rw [h2]; decide), if_neg (by rw [h3]; decide), if_neg (by rw [h4]; decide), if_neg (by rw [h5]; decide), if_pos h6]
theorem ap_7 {a : TAtlas} {e : TEvent} (h1 : (e.kind == 1) = false) (h2 : (e.kind == 2) = false) (h3 : (e.kind == 3) = false) (h4 : (e.kind == 4) = false) (h5 : (e.kind == 5) = false) (h6 : (e.kind == 6) = false) (h7 : (e.kind == 7) = true) : apO a e = ((tickO a e.id), (inr e.id 1 1000)) := by unfold apO; rw [if_neg (by rw [h1]; decide), if_neg (by rw [h2]; decide), if_neg (by rw [h3]; decide), if_neg (by rw [h4]; decide), if_neg (by rw [h5]; decide), if_neg (by rw [h6]; decide), if_pos h7]
theorem ap_8 {a : TAtlas} {e : TEvent} (h1 : (e.kind == 1) = false) (h2 : (e.kind == 2) = false) (h3 : (e.kind == 3) = false) (h4 : (e.kind == 4) = false) (h5 : (e.kind == 5) = false) (h6 : (e.kind == 6) = false) (h7 : (e.kind == 7) = false) : apO a e = (a, false) := by unfold apO; rw [if_neg (by rw [h1]; decide), if_neg (by rw [h2]; decide), if_neg (by rw [h3]; decide), if_neg (by rw [h4]; decide), if_neg (by rw [h5]; decide), if_neg (by rw [h6]; decide), if_neg (by rw [h7]; decide)]
def TEvent.gd (e : TEvent) : Prop := e.feature.gd ∧ (e.log.length ≤ 1048576 ∧ ∀ x ∈ e.log, x.feature.gd) ∧ e.levels.length ≤ 1048576 ∧ e.letter.size ≤ maxLen
def TEvent.gs (e : TEvent) : Prop := e.feature.sm ∧ (e.log.length ≤ 1048576 ∧ ∀ x ∈ e.log, x.feature.sm) ∧ e.levels.length ≤ 1048576
theorem apO_gd {a : TAtlas} {e : TEvent} (h : a.gd) (he : e.gd) : (apO a e).1.gd := by
  unfold apO
  split
  · exact logO_gd h he.1
  split
  · exact tkO_gd h
  split
  · exact mrgO_gd h he.2.1.2
  split
  · exact edO_gd h
  split
  · exact levO_gd h he.2.2.1
  split
  · exact covO_gd h
  split
  · exact tickO_gd h
  · exact h
theorem apO_sm {a : TAtlas} {e : TEvent} (h : a.sm) (he : e.gs) : (apO a e).1.sm := by
  unfold apO
  split
  · exact logO_sm h he.1
  split
  · exact tkO_sm h
  split
  · exact mrgO_sm h he.2.1.2
  split
  · exact edO_sm h
  split
  · exact levO_sm h he.2.2
  split
  · exact covO_sm h
  split
  · exact h
  · exact h
theorem ap_i (a : TAtlas) (hgd : a.gd) (e : TEvent) (he : e.gd) : VCalls Tryz.prog 51 [.agg a.en, .agg e.en] (fun r M => r = .tup [.agg (stp a (apO a e).1 (apO a e).2).eo, B (stpB a (apO a e).1 (apO a e).2)] ∧ M = (stp a (apO a e).1 (apO a e).2).rw) := by
  refine VB Tryz.func51 68 (fun E hE => ?_)
  have hgs := hgd.gs
  have hclA : Clo (.agg a.en) := Clo.agg a.clo_en
  have hclL : Clo (.ro 8 (a.log.map TEntry.en)) := clo_list TEntry.clo_en
  have hclV : Clo (.ro 3 (a.levels.map TLevel.en)) := clo_list TLevel.clo_en
  have hclE : Clo (.ro 3 (a.editions.map TEdition.en)) := clo_list TEdition.clo_en
  obtain ⟨he1, ⟨he2, he3⟩, he4, he5⟩ := id he
  have hclq0 : Clo (.ro 2 (e.feature.points.map TPoint.en)) := clo_list TPoint.clo_en
  have hclq1 : Clo (.ro 8 (e.log.map TEntry.en)) := clo_list TEntry.clo_en
  have hclq2 : Clo (.ro 3 (e.levels.map TLevel.en)) := clo_list TLevel.clo_en
  have hclqf : Clo (.agg e.feature.en) := Clo.agg e.feature.clo_en
  have hclqe : Clo (.agg e.en) := Clo.agg e.clo_en
  dsimp only [TEvent.en]
  dsimp only [TAtlas.en]
  repeat' ((first
    | (refine iAL ?_; first | refine AL.any ?_ | refine AL.any (h := POp.O Tryz.func27 (hc := (show VCalls Tryz.prog 27 [.agg [.ro 8 (a.log.map TEntry.en), .ro 3 (a.levels.map TLevel.en), .ro 3 (a.editions.map TEdition.en), I a.cover.w, I a.cover.h, S a.cover.cells, I a.now], .ro 3 (e.levels.map TLevel.en)] (fun r M => r = .tup [.agg [.own 0 0, .own 1 0, .own 2 0, I (stp a (levO a e.levels) true).cover.w, I (stp a (levO a e.levels) true).cover.h, S (stp a (levO a e.levels) true).cover.cells, I (stp a (levO a e.levels) true).now], B (stpB a (levO a e.levels) true)] ∧ M = [some ⟨121, 8, 0, false, (stp a (levO a e.levels) true).log.map TEntry.ed⟩, some ⟨97, 3, 0, false, (stp a (levO a e.levels) true).levels.map TLevel.en⟩, some ⟨136, 3, 0, false, (stp a (levO a e.levels) true).editions.map TEdition.ed⟩]) from lev_i a hgd e.levels he4))) ?_ | refine AL.any (h := POp.O Tryz.func29 (hc := (show VCalls Tryz.prog 29 [.agg [.ro 8 (a.log.map TEntry.en), .ro 3 (a.levels.map TLevel.en), .ro 3 (a.editions.map TEdition.en), I a.cover.w, I a.cover.h, S a.cover.cells, I a.now], I e.id] (fun r M => r = .tup [.agg [.own 0 0, .own 1 0, .own 2 0, I (stp a (tickO a e.id) (inr e.id 1 1000)).cover.w, I (stp a (tickO a e.id) (inr e.id 1 1000)).cover.h, S (stp a (tickO a e.id) (inr e.id 1 1000)).cover.cells, I (stp a (tickO a e.id) (inr e.id 1 1000)).now], B (stpB a (tickO a e.id) (inr e.id 1 1000))] ∧ M = [some ⟨121, 8, 0, false, (stp a (tickO a e.id) (inr e.id 1 1000)).log.map TEntry.ed⟩, some ⟨97, 3, 0, false, (stp a (tickO a e.id) (inr e.id 1 1000)).levels.map TLevel.en⟩, some ⟨136, 3, 0, false, (stp a (tickO a e.id) (inr e.id 1 1000)).editions.map TEdition.ed⟩]) from tick_i a hgd e.id))) ?_ | refine AL.any (h := POp.O Tryz.func31 (hc := (show VCalls Tryz.prog 31 [.agg [.ro 8 (a.log.map TEntry.en), .ro 3 (a.levels.map TLevel.en), .ro 3 (a.editions.map TEdition.en), I a.cover.w, I a.cover.h, S a.cover.cells, I a.now], I e.id, S e.letter] (fun r M => r = .tup [.agg [.own 0 0, .own 1 0, .own 2 0, I (stp a (covO a e.id e.letter) (covK a e.id e.letter)).cover.w, I (stp a (covO a e.id e.letter) (covK a e.id e.letter)).cover.h, S (stp a (covO a e.id e.letter) (covK a e.id e.letter)).cover.cells, I (stp a (covO a e.id e.letter) (covK a e.id e.letter)).now], B (stpB a (covO a e.id e.letter) (covK a e.id e.letter))] ∧ M = [some ⟨121, 8, 0, false, (stp a (covO a e.id e.letter) (covK a e.id e.letter)).log.map TEntry.ed⟩, some ⟨97, 3, 0, false, (stp a (covO a e.id e.letter) (covK a e.id e.letter)).levels.map TLevel.en⟩, some ⟨136, 3, 0, false, (stp a (covO a e.id e.letter) (covK a e.id e.letter)).editions.map TEdition.ed⟩]) from cov_i a hgd e.id e.letter he5))) ?_ | refine AL.any (h := POp.O Tryz.func33 (hc := (show VCalls Tryz.prog 33 [.agg [.ro 8 (a.log.map TEntry.en), .ro 3 (a.levels.map TLevel.en), .ro 3 (a.editions.map TEdition.en), I a.cover.w, I a.cover.h, S a.cover.cells, I a.now]] (fun r M => r = .tup [.agg [.own 0 0, .own 1 0, .own 2 0, I (stp a (edO a) (edK a)).cover.w, I (stp a (edO a) (edK a)).cover.h, S (stp a (edO a) (edK a)).cover.cells, I (stp a (edO a) (edK a)).now], B (stpB a (edO a) (edK a))] ∧ M = [some ⟨121, 8, 0, false, (stp a (edO a) (edK a)).log.map TEntry.ed⟩, some ⟨97, 3, 0, false, (stp a (edO a) (edK a)).levels.map TLevel.en⟩, some ⟨136, 3, 0, false, (stp a (edO a) (edK a)).editions.map TEdition.ed⟩]) from edn_i a hgd ))) ?_ | refine AL.any (h := POp.O Tryz.func37 (hc := (show VCalls Tryz.prog 37 [.agg [.ro 8 (a.log.map TEntry.en), .ro 3 (a.levels.map TLevel.en), .ro 3 (a.editions.map TEdition.en), I a.cover.w, I a.cover.h, S a.cover.cells, I a.now], .ro 8 (e.log.map TEntry.en)] (fun r M => r = .tup [.agg [.own 0 0, .own 1 0, .own 2 0, I (stp a (mrgO a e.log) (isLog e.log)).cover.w, I (stp a (mrgO a e.log) (isLog e.log)).cover.h, S (stp a (mrgO a e.log) (isLog e.log)).cover.cells, I (stp a (mrgO a e.log) (isLog e.log)).now], B (stpB a (mrgO a e.log) (isLog e.log))] ∧ M = [some ⟨121, 8, 0, false, (stp a (mrgO a e.log) (isLog e.log)).log.map TEntry.ed⟩, some ⟨97, 3, 0, false, (stp a (mrgO a e.log) (isLog e.log)).levels.map TLevel.en⟩, some ⟨136, 3, 0, false, (stp a (mrgO a e.log) (isLog e.log)).editions.map TEdition.ed⟩]) from mrg_i a hgd e.log he2 he3))) ?_ | refine AL.any (h := POp.O Tryz.func43 (hc := (show VCalls Tryz.prog 43 [.agg [.ro 8 (a.log.map TEntry.en), .ro 3 (a.levels.map TLevel.en), .ro 3 (a.editions.map TEdition.en), I a.cover.w, I a.cover.h, S a.cover.cells, I a.now], .agg [I e.feature.id, I e.feature.kind, I e.feature.rank, S e.feature.name, .ro 2 (e.feature.points.map TPoint.en)], I e.who] (fun r M => r = .tup [.agg [.own 0 0, .own 1 0, .own 2 0, I (stp a (logO a (putE a e.feature e.who)) (logK a (putE a e.feature e.who))).cover.w, I (stp a (logO a (putE a e.feature e.who)) (logK a (putE a e.feature e.who))).cover.h, S (stp a (logO a (putE a e.feature e.who)) (logK a (putE a e.feature e.who))).cover.cells, I (stp a (logO a (putE a e.feature e.who)) (logK a (putE a e.feature e.who))).now], B (stpB a (logO a (putE a e.feature e.who)) (logK a (putE a e.feature e.who)))] ∧ M = [some ⟨121, 8, 0, false, (stp a (logO a (putE a e.feature e.who)) (logK a (putE a e.feature e.who))).log.map TEntry.ed⟩, some ⟨97, 3, 0, false, (stp a (logO a (putE a e.feature e.who)) (logK a (putE a e.feature e.who))).levels.map TLevel.en⟩, some ⟨136, 3, 0, false, (stp a (logO a (putE a e.feature e.who)) (logK a (putE a e.feature e.who))).editions.map TEdition.ed⟩]) from put_i a hgd e.feature he1 e.who))) ?_ | refine AL.any (h := POp.O Tryz.func47 (hc := (show VCalls Tryz.prog 47 [.agg [.ro 8 (a.log.map TEntry.en), .ro 3 (a.levels.map TLevel.en), .ro 3 (a.editions.map TEdition.en), I a.cover.w, I a.cover.h, S a.cover.cells, I a.now], I e.id, I e.who] (fun r M => r = .tup [.agg [.own 0 0, .own 1 0, .own 2 0, I (stp a (tkO a e.id e.who) (tkK a e.id e.who)).cover.w, I (stp a (tkO a e.id e.who) (tkK a e.id e.who)).cover.h, S (stp a (tkO a e.id e.who) (tkK a e.id e.who)).cover.cells, I (stp a (tkO a e.id e.who) (tkK a e.id e.who)).now], B (stpB a (tkO a e.id e.who) (tkK a e.id e.who))] ∧ M = [some ⟨121, 8, 0, false, (stp a (tkO a e.id e.who) (tkK a e.id e.who)).log.map TEntry.ed⟩, some ⟨97, 3, 0, false, (stp a (tkO a e.id e.who) (tkK a e.id e.who)).levels.map TLevel.en⟩, some ⟨136, 3, 0, false, (stp a (tkO a e.id e.who) (tkK a e.id e.who)).editions.map TEdition.ed⟩]) from tk_i a hgd e.id e.who))) ?_ | refine AL.any (h := POp.O Tryz.func75 (hc := cpA_iX a (by assumption))) ?_ | refine AL.nil ?_)
    | (refine iAW ?_; first | (refine AW.c0 ?_; constructor) | refine AW.cT ?_ | refine AW.cF ?_ | (refine AW.c2 ?_ ?_ <;> (intro h; try simp only [bT, bF] at h)))) <;> (try dsimp only))
  all_goals first
    | (rw [ap_1 (by assumption)]; exact Fin.r2 [3, 4, 5] rfl (RV.cell (QOp.quietA TT_ok (by rfl))) (RV.tmp (by rfl)) ⟨rfl, rfl⟩)
    | (rw [ap_2 (by assumption) (by assumption)]; exact Fin.r2 [3, 4, 5] rfl (RV.cell (QOp.quietA TT_ok (by rfl))) (RV.tmp (by rfl)) ⟨rfl, rfl⟩)
    | (rw [ap_3 (by assumption) (by assumption) (by assumption)]; exact Fin.r2 [3, 4, 5] rfl (RV.cell (QOp.quietA TT_ok (by rfl))) (RV.tmp (by rfl)) ⟨rfl, rfl⟩)
    | (rw [ap_4 (by assumption) (by assumption) (by assumption) (by assumption)]; exact Fin.r2 [3, 4, 5] rfl (RV.cell (QOp.quietA TT_ok (by rfl))) (RV.tmp (by rfl)) ⟨rfl, rfl⟩)
    | (rw [ap_5 (by assumption) (by assumption) (by assumption) (by assumption) (by assumption)]; exact Fin.r2 [3, 4, 5] rfl (RV.cell (QOp.quietA TT_ok (by rfl))) (RV.tmp (by rfl)) ⟨rfl, rfl⟩)
    | (rw [ap_6 (by assumption) (by assumption) (by assumption) (by assumption) (by assumption) (by assumption)]; exact Fin.r2 [3, 4, 5] rfl (RV.cell (QOp.quietA TT_ok (by rfl))) (RV.tmp (by rfl)) ⟨rfl, rfl⟩)
    | (rw [ap_7 (by assumption) (by assumption) (by assumption) (by assumption) (by assumption) (by assumption) (by assumption)]; exact Fin.r2 [3, 4, 5] rfl (RV.cell (QOp.quietA TT_ok (by rfl))) (RV.tmp (by rfl)) ⟨rfl, rfl⟩)
    | (rw [ap_8 (by assumption) (by assumption) (by assumption) (by assumption) (by assumption) (by assumption) (by assumption), stp_f rfl]; exact Fin.r2 [3, 4, 5] rfl (RV.cell (QOp.quietA TT_ok (by rfl))) (RV.tmp (by rfl)) ⟨rfl, rfl⟩)

theorem ap_s (a : TAtlas) (hgd : a.gd) (e : TEvent) (he : e.gd) : VCalls Tryz.prog 49 [.agg a.en, .agg e.en] (fun r M => r = .tup [.agg (stp a (apO a e).1 (apO a e).2).eo, B (stpB a (apO a e).1 (apO a e).2)] ∧ M = (stp a (apO a e).1 (apO a e).2).rw) := by
  refine VB Tryz.func49 68 (fun E hE => ?_)
  have hgs := hgd.gs
  have hclA : Clo (.agg a.en) := Clo.agg a.clo_en
  have hclL : Clo (.ro 8 (a.log.map TEntry.en)) := clo_list TEntry.clo_en
  have hclV : Clo (.ro 3 (a.levels.map TLevel.en)) := clo_list TLevel.clo_en
  have hclE : Clo (.ro 3 (a.editions.map TEdition.en)) := clo_list TEdition.clo_en
  obtain ⟨he1, ⟨he2, he3⟩, he4, he5⟩ := id he
  have hclq0 : Clo (.ro 2 (e.feature.points.map TPoint.en)) := clo_list TPoint.clo_en
  have hclq1 : Clo (.ro 8 (e.log.map TEntry.en)) := clo_list TEntry.clo_en
  have hclq2 : Clo (.ro 3 (e.levels.map TLevel.en)) := clo_list TLevel.clo_en
  have hclqf : Clo (.agg e.feature.en) := Clo.agg e.feature.clo_en
  have hclqe : Clo (.agg e.en) := Clo.agg e.clo_en
  dsimp only [TEvent.en]
  dsimp only [TAtlas.en]
  repeat' ((first
    | (refine iAL ?_; first | refine AL.any ?_ | refine AL.any (h := POp.O Tryz.func25 (hc := (show VCalls Tryz.prog 25 [.agg [.ro 8 (a.log.map TEntry.en), .ro 3 (a.levels.map TLevel.en), .ro 3 (a.editions.map TEdition.en), I a.cover.w, I a.cover.h, S a.cover.cells, I a.now], .ro 3 (e.levels.map TLevel.en)] (fun r M => r = .tup [.agg [.own 0 0, .own 1 0, .own 2 0, I (stp a (levO a e.levels) true).cover.w, I (stp a (levO a e.levels) true).cover.h, S (stp a (levO a e.levels) true).cover.cells, I (stp a (levO a e.levels) true).now], B (stpB a (levO a e.levels) true)] ∧ M = [some ⟨121, 8, 0, false, (stp a (levO a e.levels) true).log.map TEntry.ed⟩, some ⟨97, 3, 0, false, (stp a (levO a e.levels) true).levels.map TLevel.en⟩, some ⟨136, 3, 0, false, (stp a (levO a e.levels) true).editions.map TEdition.ed⟩]) from lev_s a hgd e.levels he4))) ?_ | refine AL.any (h := POp.O Tryz.func28 (hc := (show VCalls Tryz.prog 28 [.agg [.ro 8 (a.log.map TEntry.en), .ro 3 (a.levels.map TLevel.en), .ro 3 (a.editions.map TEdition.en), I a.cover.w, I a.cover.h, S a.cover.cells, I a.now], I e.id] (fun r M => r = .tup [.agg [.own 0 0, .own 1 0, .own 2 0, I (stp a (tickO a e.id) (inr e.id 1 1000)).cover.w, I (stp a (tickO a e.id) (inr e.id 1 1000)).cover.h, S (stp a (tickO a e.id) (inr e.id 1 1000)).cover.cells, I (stp a (tickO a e.id) (inr e.id 1 1000)).now], B (stpB a (tickO a e.id) (inr e.id 1 1000))] ∧ M = [some ⟨121, 8, 0, false, (stp a (tickO a e.id) (inr e.id 1 1000)).log.map TEntry.ed⟩, some ⟨97, 3, 0, false, (stp a (tickO a e.id) (inr e.id 1 1000)).levels.map TLevel.en⟩, some ⟨136, 3, 0, false, (stp a (tickO a e.id) (inr e.id 1 1000)).editions.map TEdition.ed⟩]) from tick_s a hgd e.id))) ?_ | refine AL.any (h := POp.O Tryz.func30 (hc := (show VCalls Tryz.prog 30 [.agg [.ro 8 (a.log.map TEntry.en), .ro 3 (a.levels.map TLevel.en), .ro 3 (a.editions.map TEdition.en), I a.cover.w, I a.cover.h, S a.cover.cells, I a.now], I e.id, S e.letter] (fun r M => r = .tup [.agg [.own 0 0, .own 1 0, .own 2 0, I (stp a (covO a e.id e.letter) (covK a e.id e.letter)).cover.w, I (stp a (covO a e.id e.letter) (covK a e.id e.letter)).cover.h, S (stp a (covO a e.id e.letter) (covK a e.id e.letter)).cover.cells, I (stp a (covO a e.id e.letter) (covK a e.id e.letter)).now], B (stpB a (covO a e.id e.letter) (covK a e.id e.letter))] ∧ M = [some ⟨121, 8, 0, false, (stp a (covO a e.id e.letter) (covK a e.id e.letter)).log.map TEntry.ed⟩, some ⟨97, 3, 0, false, (stp a (covO a e.id e.letter) (covK a e.id e.letter)).levels.map TLevel.en⟩, some ⟨136, 3, 0, false, (stp a (covO a e.id e.letter) (covK a e.id e.letter)).editions.map TEdition.ed⟩]) from cov_s a hgd e.id e.letter he5))) ?_ | refine AL.any (h := POp.O Tryz.func32 (hc := (show VCalls Tryz.prog 32 [.agg [.ro 8 (a.log.map TEntry.en), .ro 3 (a.levels.map TLevel.en), .ro 3 (a.editions.map TEdition.en), I a.cover.w, I a.cover.h, S a.cover.cells, I a.now]] (fun r M => r = .tup [.agg [.own 0 0, .own 1 0, .own 2 0, I (stp a (edO a) (edK a)).cover.w, I (stp a (edO a) (edK a)).cover.h, S (stp a (edO a) (edK a)).cover.cells, I (stp a (edO a) (edK a)).now], B (stpB a (edO a) (edK a))] ∧ M = [some ⟨121, 8, 0, false, (stp a (edO a) (edK a)).log.map TEntry.ed⟩, some ⟨97, 3, 0, false, (stp a (edO a) (edK a)).levels.map TLevel.en⟩, some ⟨136, 3, 0, false, (stp a (edO a) (edK a)).editions.map TEdition.ed⟩]) from edn_s a hgd ))) ?_ | refine AL.any (h := POp.O Tryz.func35 (hc := (show VCalls Tryz.prog 35 [.agg [.ro 8 (a.log.map TEntry.en), .ro 3 (a.levels.map TLevel.en), .ro 3 (a.editions.map TEdition.en), I a.cover.w, I a.cover.h, S a.cover.cells, I a.now], .ro 8 (e.log.map TEntry.en)] (fun r M => r = .tup [.agg [.own 0 0, .own 1 0, .own 2 0, I (stp a (mrgO a e.log) (isLog e.log)).cover.w, I (stp a (mrgO a e.log) (isLog e.log)).cover.h, S (stp a (mrgO a e.log) (isLog e.log)).cover.cells, I (stp a (mrgO a e.log) (isLog e.log)).now], B (stpB a (mrgO a e.log) (isLog e.log))] ∧ M = [some ⟨121, 8, 0, false, (stp a (mrgO a e.log) (isLog e.log)).log.map TEntry.ed⟩, some ⟨97, 3, 0, false, (stp a (mrgO a e.log) (isLog e.log)).levels.map TLevel.en⟩, some ⟨136, 3, 0, false, (stp a (mrgO a e.log) (isLog e.log)).editions.map TEdition.ed⟩]) from mrg_s a hgd e.log he2 he3))) ?_ | refine AL.any (h := POp.O Tryz.func41 (hc := (show VCalls Tryz.prog 41 [.agg [.ro 8 (a.log.map TEntry.en), .ro 3 (a.levels.map TLevel.en), .ro 3 (a.editions.map TEdition.en), I a.cover.w, I a.cover.h, S a.cover.cells, I a.now], .agg [I e.feature.id, I e.feature.kind, I e.feature.rank, S e.feature.name, .ro 2 (e.feature.points.map TPoint.en)], I e.who] (fun r M => r = .tup [.agg [.own 0 0, .own 1 0, .own 2 0, I (stp a (logO a (putE a e.feature e.who)) (logK a (putE a e.feature e.who))).cover.w, I (stp a (logO a (putE a e.feature e.who)) (logK a (putE a e.feature e.who))).cover.h, S (stp a (logO a (putE a e.feature e.who)) (logK a (putE a e.feature e.who))).cover.cells, I (stp a (logO a (putE a e.feature e.who)) (logK a (putE a e.feature e.who))).now], B (stpB a (logO a (putE a e.feature e.who)) (logK a (putE a e.feature e.who)))] ∧ M = [some ⟨121, 8, 0, false, (stp a (logO a (putE a e.feature e.who)) (logK a (putE a e.feature e.who))).log.map TEntry.ed⟩, some ⟨97, 3, 0, false, (stp a (logO a (putE a e.feature e.who)) (logK a (putE a e.feature e.who))).levels.map TLevel.en⟩, some ⟨136, 3, 0, false, (stp a (logO a (putE a e.feature e.who)) (logK a (putE a e.feature e.who))).editions.map TEdition.ed⟩]) from put_s a hgd e.feature he1 e.who))) ?_ | refine AL.any (h := POp.O Tryz.func46 (hc := (show VCalls Tryz.prog 46 [.agg [.ro 8 (a.log.map TEntry.en), .ro 3 (a.levels.map TLevel.en), .ro 3 (a.editions.map TEdition.en), I a.cover.w, I a.cover.h, S a.cover.cells, I a.now], I e.id, I e.who] (fun r M => r = .tup [.agg [.own 0 0, .own 1 0, .own 2 0, I (stp a (tkO a e.id e.who) (tkK a e.id e.who)).cover.w, I (stp a (tkO a e.id e.who) (tkK a e.id e.who)).cover.h, S (stp a (tkO a e.id e.who) (tkK a e.id e.who)).cover.cells, I (stp a (tkO a e.id e.who) (tkK a e.id e.who)).now], B (stpB a (tkO a e.id e.who) (tkK a e.id e.who))] ∧ M = [some ⟨121, 8, 0, false, (stp a (tkO a e.id e.who) (tkK a e.id e.who)).log.map TEntry.ed⟩, some ⟨97, 3, 0, false, (stp a (tkO a e.id e.who) (tkK a e.id e.who)).levels.map TLevel.en⟩, some ⟨136, 3, 0, false, (stp a (tkO a e.id e.who) (tkK a e.id e.who)).editions.map TEdition.ed⟩]) from tk_s a hgd e.id e.who))) ?_ | refine AL.any (h := POp.O Tryz.func60 (hc := cpA_sX a (by assumption))) ?_ | refine AL.nil ?_)
    | (refine iAW ?_; first | (refine AW.c0 ?_; constructor) | refine AW.cT ?_ | refine AW.cF ?_ | (refine AW.c2 ?_ ?_ <;> (intro h; try simp only [bT, bF] at h)))) <;> (try dsimp only))
  all_goals first
    | (rw [ap_1 (by assumption)]; exact Fin.r2 [3, 4, 5] rfl (RV.cell (QOp.quietA TT_ok (by rfl))) (RV.tmp (by rfl)) ⟨rfl, rfl⟩)
    | (rw [ap_2 (by assumption) (by assumption)]; exact Fin.r2 [3, 4, 5] rfl (RV.cell (QOp.quietA TT_ok (by rfl))) (RV.tmp (by rfl)) ⟨rfl, rfl⟩)
    | (rw [ap_3 (by assumption) (by assumption) (by assumption)]; exact Fin.r2 [3, 4, 5] rfl (RV.cell (QOp.quietA TT_ok (by rfl))) (RV.tmp (by rfl)) ⟨rfl, rfl⟩)
    | (rw [ap_4 (by assumption) (by assumption) (by assumption) (by assumption)]; exact Fin.r2 [3, 4, 5] rfl (RV.cell (QOp.quietA TT_ok (by rfl))) (RV.tmp (by rfl)) ⟨rfl, rfl⟩)
    | (rw [ap_5 (by assumption) (by assumption) (by assumption) (by assumption) (by assumption)]; exact Fin.r2 [3, 4, 5] rfl (RV.cell (QOp.quietA TT_ok (by rfl))) (RV.tmp (by rfl)) ⟨rfl, rfl⟩)
    | (rw [ap_6 (by assumption) (by assumption) (by assumption) (by assumption) (by assumption) (by assumption)]; exact Fin.r2 [3, 4, 5] rfl (RV.cell (QOp.quietA TT_ok (by rfl))) (RV.tmp (by rfl)) ⟨rfl, rfl⟩)
    | (rw [ap_7 (by assumption) (by assumption) (by assumption) (by assumption) (by assumption) (by assumption) (by assumption)]; exact Fin.r2 [3, 4, 5] rfl (RV.cell (QOp.quietA TT_ok (by rfl))) (RV.tmp (by rfl)) ⟨rfl, rfl⟩)
    | (rw [ap_8 (by assumption) (by assumption) (by assumption) (by assumption) (by assumption) (by assumption) (by assumption), stp_f rfl]; exact Fin.r2 [3, 4, 5] rfl (RV.cell (QOp.quietA TT_ok (by rfl))) (RV.tmp (by rfl)) ⟨rfl, rfl⟩)

theorem ap_i' (a : TAtlas) (hgd : a.gd) (e : TEvent) (he : e.gd) : VCalls Tryz.prog 51 [.agg a.en, .agg e.en] (fun r M => r = .tup [.agg (stp a (apO a e).1 (apO a e).2).en, B (stpB a (apO a e).1 (apO a e).2)] ∧ M = []) := VCalls.frz (ap_i a hgd e he) (by exact VwL.cons (View.tup' vwlT) VwL.nil)
theorem ap_s' (a : TAtlas) (hgd : a.gd) (e : TEvent) (he : e.gd) : VCalls Tryz.prog 49 [.agg a.en, .agg e.en] (fun r M => r = .tup [.agg (stp a (apO a e).1 (apO a e).2).en, B (stpB a (apO a e).1 (apO a e).2)] ∧ M = []) := VCalls.frz (ap_s a hgd e he) (by exact VwL.cons (View.tup' vwlT) VwL.nil)
def TEvent.eo (a : TEvent) : List AV := [I a.kind, I a.feature.id, I a.feature.kind, I a.feature.rank, S a.feature.name, .own 0 0, I a.id, I a.who, .own 1 0, .own 2 0, S a.letter]
def TEvent.rw (a : TEvent) : Mem := [some ⟨152, 2, 0, false, a.feature.points.map TPoint.en⟩, some ⟨121, 8, 0, false, a.log.map TEntry.ed⟩, some ⟨97, 3, 0, false, a.levels.map TLevel.en⟩]
theorem toEvent_o (x : TEvent) (hs : x.sm) : VCalls Tryz.prog 50 [.agg x.en] (fun r M => r = .agg x.eo ∧ M = x.rw) := by
  refine VB Tryz.func50 28 (fun E hE => ?_)
  have hclo0 : Clo (.ro 2 (x.feature.points.map TPoint.en)) := clo_list TPoint.clo_en
  have hclo1 : Clo (.ro 8 (x.log.map TEntry.en)) := clo_list TEntry.clo_en
  have hclo2 : Clo (.ro 3 (x.levels.map TLevel.en)) := clo_list TLevel.clo_en
  have hcls0 : Clo (.agg x.feature.en) := Clo.agg x.feature.clo_en
  have hcle : Clo (.agg x.en) := Clo.agg x.clo_en
  have hs' := hs
  obtain ⟨hs1, ⟨hs4, hs4'⟩, hs5⟩ := hs
  dsimp only [TEvent.en]
  repeat' ((first
    | (refine iAL ?_; first | refine AL.any ?_ | refine AL.any (h := POp.O Tryz.func16 (hc := toLevelS_o _ (by assumption))) ?_ | refine AL.any (h := POp.O Tryz.func36 (hc := toEntryS_o _ (by assumption) (by assumption))) ?_ | refine AL.any (h := POp.O Tryz.func42 (hc := toFeature_o x.feature (by assumption))) ?_ | refine AL.nil ?_)
    | (refine iAW ?_; first | (refine AW.c0 ?_; constructor))) <;> (try dsimp only))
  all_goals exact Fin.r1 [3, 4, 5] rfl (RV.cell (QOp.quietA TT_ok (by rfl))) ⟨rfl, rfl⟩

theorem toEventS_o (l : List TEvent) (hl : l.length ≤ 1048576) (hp : ∀ x ∈ l, x.sm) : VCalls Tryz.prog 56 [.ro 11 (l.map TEvent.en)] (fun r M => r = .own 0 0 ∧ M = [some ⟨81, 11, 0, false, l.map TEvent.ed⟩]) := by
  refine VB Tryz.func56 22 (fun E hE => ?_)
  repeat' ((first
    | (refine iAL ?_; first | refine AL.any (h := POp.gh POp.mk (Gh.trans (Gh.trans (Gh.absorbS (q := 0) (id := 1) (j := 5) rfl (by assumption) rfl rfl rfl rfl rfl (DCl.map (fun _ => rfl)) TPoint.und) (Gh.absorbS (q := 0) (id := 2) (j := 8) rfl (by assumption) rfl rfl rfl rfl rfl (DCl.map (fun _ => rfl)) TEntry.und)) (Gh.absorbS (q := 0) (id := 3) (j := 9) rfl (by assumption) rfl rfl rfl rfl rfl (DCl.map (fun _ => rfl)) TLevel.und))) ?_ | refine AL.any ?_ | refine AL.any (h := POp.O Tryz.func50 (hc := toEvent_o x (by assumption))) ?_ | refine AL.nil ?_)
    | (refine iAW ?_; first | (refine AW.c0 ?_; constructor) | refine AW.cT ?_ | refine AW.cF ?_ | (refine AW.c2 ?_ ?_ <;> (intro h; try simp only [bT, bF] at h)))
    | (refine AW.loopD hE (fun i : Nat => [.ro 11 (l.map TEvent.en), .any, .any, .own 0 0, I i, .any, .any, .any, .any, .any, .any, .any, .any, .any, .any, .any, .any, .any, .any, .any, .any, .any, .any]) (fun i => [some ⟨81, 11, 0, false, fil TEvent.ed [I 0, I 0, I 0, I 0, S ⟨#[]⟩, .c (.slice none 0 0), I 0, I 0, .c (.slice none 0 0), .c (.slice none 0 0), S ⟨#[]⟩] l i⟩]) (fun i => l.length - i) (fun i => i ≤ l.length) 0 (by simp) ?_ (by first | rfl | (simp [fil_zero]; done)) ?_
       (focus (exact wkI))
       intro i hi
       have hclo : Clo (.ro 11 (l.map TEvent.en)) := clo_list TEvent.clo_en
       by_cases hlt : i < l.length
       case' pos =>
         have hP := True.intro
         obtain ⟨x, hx⟩ : ∃ x, l[i]? = some x := ⟨_, List.getElem?_eq_getElem hlt⟩
         have hg := map_get (f := TEvent.en) hx
         have ht := lt_true (f := TEvent.en) hlt
         have hn := next_ix hlt (by omega)
         have hz := fil_get (en := TEvent.ed) (z := [I 0, I 0, I 0, I 0, S ⟨#[]⟩, .c (.slice none 0 0), I 0, I 0, .c (.slice none 0 0), .c (.slice none 0 0), S ⟨#[]⟩]) hlt
         have ha := fil_at (en := TEvent.ed) (z := [I 0, I 0, I 0, I 0, S ⟨#[]⟩, .c (.slice none 0 0), I 0, I 0, .c (.slice none 0 0), .c (.slice none 0 0), S ⟨#[]⟩]) hlt
         have hs := fil_set (en := TEvent.ed) (z := [I 0, I 0, I 0, I 0, S ⟨#[]⟩, .c (.slice none 0 0), I 0, I 0, .c (.slice none 0 0), .c (.slice none 0 0), S ⟨#[]⟩]) hx
         have hpx := hp x (List.mem_of_getElem? hx)
         have hclo0 : Clo (.ro 2 (x.feature.points.map TPoint.en)) := clo_list TPoint.clo_en
         have hclo1 : Clo (.ro 8 (x.log.map TEntry.en)) := clo_list TEntry.clo_en
         have hclo2 : Clo (.ro 3 (x.levels.map TLevel.en)) := clo_list TLevel.clo_en
         have hcls0 : Clo (.agg x.feature.en) := Clo.agg x.feature.clo_en
         have hcle : Clo (.agg x.en) := Clo.agg x.clo_en
       case' neg =>
         have hQ := True.intro
         have ht := lt_false (f := TEvent.en) hlt
         have e : i = l.length := by omega
         subst e
         try rw [List.take_length])
    | with_reducible refine ifP ?_
    | with_reducible refine ifN ?_) <;> (try dsimp only))
  all_goals first
    | (have _ := hP; (refine ⟨i + 1, [none, none, none], hlt, by omega, ?_, by rw [← hs] <;> rfl, ?_, ?_⟩; (focus (exact wkN)); (focus (exact fitsA)); (focus (exact fits_dcl (dcl_fil (fun _ => rfl) rfl)))))
    | (have _ := hQ; (simp only [fil_all]; exact Fin.r1 [0] rfl (RV.tmp (by rfl)) ⟨rfl, rfl⟩))

def TEvent.ct (x : TEvent) : Nat := 8 + ctL TPoint.ct x.feature.points + ctL TEntry.ct x.log + ctL TLevel.ct x.levels
def TEvent.mrk (k : Int) (x : TEvent) : TEvent := ⟨k, ⟨k + 1, k + 1 + 1, k + 1 + 1 + 1, mtx (k + 1 + 1 + 1 + 1), mkL TPoint.mrk TPoint.ct (k + 1 + 1 + 1 + 1 + 1) x.feature.points⟩, k + 1 + 1 + 1 + 1 + 1 + ((ctL TPoint.ct x.feature.points : Nat) : Int), k + 1 + 1 + 1 + 1 + 1 + ((ctL TPoint.ct x.feature.points : Nat) : Int) + 1, mkL TEntry.mrk TEntry.ct (k + 1 + 1 + 1 + 1 + 1 + ((ctL TPoint.ct x.feature.points : Nat) : Int) + 1 + 1) x.log, mkL TLevel.mrk TLevel.ct (k + 1 + 1 + 1 + 1 + 1 + ((ctL TPoint.ct x.feature.points : Nat) : Int) + 1 + 1 + ((ctL TEntry.ct x.log : Nat) : Int)) x.levels, mtx (k + 1 + 1 + 1 + 1 + 1 + ((ctL TPoint.ct x.feature.points : Nat) : Int) + 1 + 1 + ((ctL TEntry.ct x.log : Nat) : Int) + ((ctL TLevel.ct x.levels : Nat) : Int))⟩
theorem TEvent.ct_pos (x : TEvent) : 1 ≤ x.ct := by unfold TEvent.ct; omega
theorem markEventS (ty : TypeId) (l : List TEvent) (k : Int) (h0 : 0 ≤ k) (hb : k + ((ctL TEvent.ct l : Nat) : Int) ≤ 4611686018427387904) : ACalls Tryz.prog 59 [.own 0 0, I k] [some ⟨ty, 11, 0, false, l.map TEvent.ed⟩] (fun r M => r = I (k + ((ctL TEvent.ct l : Nat) : Int)) ∧ ∃ Mx, M = [(⟨ty, 11, 0, false, (mkL TEvent.mrk TEvent.ct k l).map TEvent.ed⟩ : Blk)].map some ++ Mx) := by
  have hll := len_ctL TEvent.ct_pos l
  refine ACalls.body Tryz.func59 rfl 95 rfl (fun E hE => ?_)
  simp only [List.reduceReplicate, List.cons_append, List.nil_append]
  repeat' ((first
    | (refine iAL ?_; first | refine AL.any ?_ | refine AL.any (h := POp.k Tryz.func91 (hc := markText _ (by omega) (by omega))) ?_ | refine AL.nil ?_)
    | (refine iAW ?_; first | (refine AW.c0 ?_; constructor) | (refine AW.loopE (fun i : Nat => (.own 0 0 :: I (k + ((ctL TEvent.ct (l.take i) : Nat) : Int)) :: .any :: .any :: .any :: I (i : Int) :: .any :: .any :: .any :: .any :: .any :: .any :: .any :: .any :: .any :: .any :: .any :: .any :: .any :: .any :: .any :: .any :: .any :: .any :: .any :: .any :: .any :: .any :: .any :: .any :: .any :: .any :: .any :: .any :: .any :: .any :: .any :: .any :: .any :: .any :: .any :: .any :: .any :: .any :: .any :: .any :: .any :: .any :: .any :: .any :: .any :: .any :: .any :: .any :: .any :: .any :: .any :: .any :: .any :: .any :: .any :: .any :: .any :: .any :: .any :: .any :: .any :: .any :: .any :: .any :: .any :: .any :: .any :: .any :: .any :: .any :: .any :: .any :: .any :: .any :: .any :: .any :: .any :: .any :: .any :: .any :: .any :: .any :: .any :: .any :: .any :: .any :: .any :: .any :: .any :: .any :: .any :: [])) (fun i => [some ⟨ty, 11, 0, false, (mkd TEvent.mrk TEvent.ct k l i).map TEvent.ed⟩]) (fun i => by rw [hE]; exact Nat.le_refl _) (fun i => l.length - i) (fun i => i ≤ l.length) 0 (Nat.zero_le _) ?_ (by rw [mkd_zero] <;> rfl) ?_) | refine AW.cT ?_ | refine AW.cF ?_ | (refine AW.c2 ?_ ?_ <;> (intro h; try simp only [bT, bF] at h)))
    | with_reducible refine ifP ?_
    | with_reducible refine ifN ?_) <;> (try dsimp only))
  · (repeat' (first | exact Wk.nil | refine Wk.any ?_ | (with_reducible refine Wk.same ?_) | refine Wk.of ?_ ?_)) <;> first | rfl | (simp [ctL])
  · intro i hi
    by_cases hlt : i < l.length
    · obtain ⟨x, hx⟩ : ∃ x, l[i]? = some x := ⟨_, List.getElem?_eq_getElem hlt⟩
      have hn := next_ix hlt (by omega)
      obtain ⟨K, hK⟩ : ∃ K, K = k + ((ctL TEvent.ct (l.take i) : Nat) : Int) := ⟨_, rfl⟩
      rw [← hK]
      have hct := ctL_le (ct := TEvent.ct) hx
      have hcs := ctL_take (ct := TEvent.ct) hx
      have hcx : TEvent.ct x = 8 + ctL TPoint.ct x.feature.points + ctL TEntry.ct x.log + ctL TLevel.ct x.levels := rfl
      have hw0 : IntKind.i64.wrap (K + 1) = K + 1 := w64 (by omega) (by omega)
      have hw1 : IntKind.i64.wrap (K + 1 + 1) = K + 1 + 1 := w64 (by omega) (by omega)
      have hw2 : IntKind.i64.wrap (K + 1 + 1 + 1) = K + 1 + 1 + 1 := w64 (by omega) (by omega)
      have hw3 : IntKind.i64.wrap (K + 1 + 1 + 1 + 1) = K + 1 + 1 + 1 + 1 := w64 (by omega) (by omega)
      have hw4 : IntKind.i64.wrap (K + 1 + 1 + 1 + 1 + 1) = K + 1 + 1 + 1 + 1 + 1 := w64 (by omega) (by omega)
      have hw5 : IntKind.i64.wrap (K + 1 + 1 + 1 + 1 + 1 + ((ctL TPoint.ct x.feature.points : Nat) : Int) + 1) = K + 1 + 1 + 1 + 1 + 1 + ((ctL TPoint.ct x.feature.points : Nat) : Int) + 1 := w64 (by omega) (by omega)
      have hw6 : IntKind.i64.wrap (K + 1 + 1 + 1 + 1 + 1 + ((ctL TPoint.ct x.feature.points : Nat) : Int) + 1 + 1) = K + 1 + 1 + 1 + 1 + 1 + ((ctL TPoint.ct x.feature.points : Nat) : Int) + 1 + 1 := w64 (by omega) (by omega)
      have hw7 : IntKind.i64.wrap (K + 1 + 1 + 1 + 1 + 1 + ((ctL TPoint.ct x.feature.points : Nat) : Int) + 1 + 1 + ((ctL TEntry.ct x.log : Nat) : Int) + ((ctL TLevel.ct x.levels : Nat) : Int) + 1) = K + 1 + 1 + 1 + 1 + 1 + ((ctL TPoint.ct x.feature.points : Nat) : Int) + 1 + 1 + ((ctL TEntry.ct x.log : Nat) : Int) + ((ctL TLevel.ct x.levels : Nat) : Int) + 1 := w64 (by omega) (by omega)
      have hend : K + 1 + 1 + 1 + 1 + 1 + ((ctL TPoint.ct x.feature.points : Nat) : Int) + 1 + 1 + ((ctL TEntry.ct x.log : Nat) : Int) + ((ctL TLevel.ct x.levels : Nat) : Int) + 1 = k + ((ctL TEvent.ct (l.take (i + 1)) : Nat) : Int) := by omega
      have hms : (mkd TEvent.mrk TEvent.ct k l (i + 1)).map TEvent.ed = ((mkd TEvent.mrk TEvent.ct k l i).map TEvent.ed).set ((i : Int)).toNat (TEvent.ed (TEvent.mrk K x)) := by rw [mkd_succ hx, List.map_set, toNat_ix, hK]
      obtain ⟨A, hA⟩ : ∃ A, A = (mkd TEvent.mrk TEvent.ct k l i).map TEvent.ed := ⟨_, rfl⟩
      rw [← hA] at hms
      have hAl : A.length = l.length := by rw [hA, List.length_map, mkd_len hi]
      have hix : ((i : Int)).toNat < A.length := by rw [toNat_ix]; omega
      have hself : A.set ((i : Int)).toNat (TEvent.ed x) = A := by
        rw [toNat_ix]
        exact set_self_of (by rw [hA, List.getElem?_map, mkd_get hx]; rfl)
      have htA : ∀ r : List AV, decide ((i : Int) < ((A.set ((i : Int)).toNat r).length : Int)) = true := fun r => by rw [List.length_set]; simp; omega
      rw [← hA, ← hself]
      dsimp only [TEvent.ed]
      refine AW.ghE (GhE.exposeS (q := 0) (i := ((i : Int)).toNat) (j := 5) rfl hix rfl TPoint.dpr) (fun ty1 => ?_)
      dsimp only [List.set, List.length, List.cons_append, List.nil_append, List.append, Nat.zero_add, Nat.reduceAdd]
      refine AW.ghE (GhE.exposeS (q := 0) (i := ((i : Int)).toNat) (j := 8) rfl hix rfl TEntry.dpr) (fun ty2 => ?_)
      dsimp only [List.set, List.length, List.cons_append, List.nil_append, List.append, Nat.zero_add, Nat.reduceAdd]
      refine AW.ghE (GhE.exposeS (q := 0) (i := ((i : Int)).toNat) (j := 9) rfl hix rfl TLevel.dpr) (fun ty3 => ?_)
      dsimp only [List.set, List.length, List.cons_append, List.nil_append, List.append, Nat.zero_add, Nat.reduceAdd]
      repeat' ((first
        | (refine iAL ?_; first | refine AL.any (h := POp.gh (POp.H [1] Tryz.func92 (hc := markPointS ty1 x.feature.points (K + 1 + 1 + 1 + 1 + 1) (by omega) (by omega))) (Gh.absorbS (q := 0) (id := 1) (j := 5) rfl (by assumption) rfl rfl rfl rfl rfl (DCl.map (fun _ => rfl)) TPoint.und)) ?_ | refine AL.any (h := POp.gh (POp.H [2] Tryz.func39 (hc := markEntryS ty2 x.log (K + 1 + 1 + 1 + 1 + 1 + ((ctL TPoint.ct x.feature.points : Nat) : Int) + 1 + 1) (by omega) (by omega))) (Gh.absorbS (q := 0) (id := 2) (j := 8) rfl (by assumption) rfl rfl rfl rfl rfl (DCl.map (fun _ => rfl)) TEntry.und)) ?_ | refine AL.any (h := POp.gh (POp.H [3] Tryz.func21 (hc := markLevelS ty3 x.levels (K + 1 + 1 + 1 + 1 + 1 + ((ctL TPoint.ct x.feature.points : Nat) : Int) + 1 + 1 + ((ctL TEntry.ct x.log : Nat) : Int)) (by omega) (by omega))) (Gh.absorbS (q := 0) (id := 3) (j := 9) rfl (by assumption) rfl rfl rfl rfl rfl (DCl.map (fun _ => rfl)) TLevel.und)) ?_ | refine AL.any ?_ | refine AL.any (h := POp.k Tryz.func91 (hc := markText _ (by omega) (by omega))) ?_ | refine AL.nil ?_)
        | (refine iAW ?_; first | (rw [hw0]) | (rw [hw1]) | (rw [hw2]) | (rw [hw3]) | (rw [hw4]) | (rw [hw5]) | (rw [hw6]) | (rw [hw7]) | (refine AW.c0 ?_; constructor) | (refine AW.cT ?_ (hb := htA _)) | (refine AW.cF ?_ (hb := htA _)) | refine AW.cT ?_ | refine AW.cF ?_ | (refine AW.c2 ?_ ?_ <;> (intro h; try simp only [bT, bF] at h)))
        | with_reducible refine ifP ?_
        | with_reducible refine ifN ?_) <;> (try dsimp only))
      all_goals (refine ⟨i + 1, [none, none, none], hlt, by omega, ?_, ?_, ?_, ?_⟩; (focus ((repeat' (first | exact Wk.nil | refine Wk.any ?_ | (with_reducible refine Wk.same ?_) | refine Wk.of ?_ ?_)) <;> first | rfl | (rw [hend]) | (rw [hn]))); (focus (rw [hms] <;> rfl)); (focus ((repeat' (first | exact Fits.nil _ | refine Fits.cons ?_ ?_ | exact Fits.any _ | exact Fits.c _ _ | exact Fits.own (by rfl) | exact Fits.ref (by rfl) | exact Fits.clo (by assumption) | exact Fits.clo (clo_of (by rfl)) | exact Fits.clo (clo_fn _))))); (focus (exact fits_dcl (DCl.map (fun _ => rfl)))))
    · have e : i = l.length := by omega
      subst e
      have hml : (mkd TEvent.mrk TEvent.ct k l l.length).length = l.length := mkd_len (Nat.le_refl _)
      have ht : decide ((l.length : Int) < ((((mkd TEvent.mrk TEvent.ct k l l.length).map TEvent.ed).length : Nat) : Int)) = false := by rw [List.length_map, hml]; simp
      rw [List.take_length]
      repeat' ((first
        | (refine iAL ?_; first | refine AL.any ?_ | refine AL.any (h := POp.k Tryz.func91 (hc := markText _ (by omega) (by omega))) ?_ | refine AL.nil ?_)
        | (refine iAW ?_; first | (refine AW.c0 ?_; constructor) | (refine AW.cT ?_ (hb := ht)) | (refine AW.cF ?_ (hb := ht)) | refine AW.cT ?_ | refine AW.cF ?_ | (refine AW.c2 ?_ ?_ <;> (intro h; try simp only [bT, bF] at h)))
        | with_reducible refine ifP ?_
        | with_reducible refine ifN ?_) <;> (try dsimp only))
      all_goals exact FinA.one rfl (RV.tmp (by rfl)) ⟨rfl, [], by rw [mkd_all] <;> rfl⟩

end Go.Proofs.YtacbpfbelcdeiaaGreat.Abs
