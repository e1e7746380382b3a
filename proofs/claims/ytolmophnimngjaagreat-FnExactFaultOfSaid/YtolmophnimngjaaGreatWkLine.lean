/- The walks of points and lines. -/
import Derived.Test.YtolmophnimngjaaGreatWkStep
import Derived.Test.YtolmophnimngjaaGreatWkTo
import Derived.Test.YtolmophnimngjaaGreatWkEq
namespace Go.Proofs.YtolmophnimngjaaGreat.Abs
open Go.Proofs Go.RowKit
set_option linter.unusedVariables false
set_option linter.unusedSimpArgs false
attribute [local irreducible] OpA AL AW DL DLM DLR DLS QOp POp VCalls VCallsI
def inr (a b c : Int) : Bool := decide (b ≤ a) && decide (a ≤ c)
def isp (x y : Int) : Bool := inr x 0 200 && inr y 0 200
abbrev wadd (a b : Int) : Int := IntKind.i64.wrap (a + b)
def wmax (a b : Int) : Int := if b > a then b else a
abbrev ptE (a b : TPoint) : Bool := eqVs [.int .i64 a.x, .int .i64 a.y] [.int .i64 b.x, .int .i64 b.y]
theorem ptE_comm (a b : TPoint) : ptE a b = ptE b a := by simp [ptE, eqVs, eqV, Bool.beq_comm, BEq.comm]
def prevP (l : List TPoint) (i : Nat) : TPoint := l.getD (i - 1) ⟨0, 0⟩
def okAt (l : List TPoint) (i : Nat) : Bool := match l[i]? with
  | none => false
  | some x => isp x.x x.y && (i == 0 || !ptE (prevP l i) x)
def ptsOk (l : List TPoint) (n : Nat) : Bool := (List.range n).all (okAt l)
theorem ptsOk_succ (l : List TPoint) (i : Nat) : ptsOk l (i + 1) = (ptsOk l i && okAt l i) := by simp [ptsOk, List.range_succ]
theorem ptsOk_not {l : List TPoint} {i n : Nat} (h : okAt l i = false) (hi : i < n) : ptsOk l n = false := by
  simp only [ptsOk, List.all_eq_false, List.mem_range]
  exact ⟨i, hi, by simp [h]⟩
def isLine (l : List TPoint) : Bool := inr l.length 2 10 && ptsOk l l.length
theorem ln_cases {l : List TPoint} {i : Nat} {x : TPoint} (hx : l[i]? = some x) (hl : l.length ≤ 1048576) :
    (isp x.x x.y = false ∧ okAt l i = false) ∨ (isp x.x x.y = true ∧ decide ((i : Int) > 0) = false ∧ okAt l i = true) ∨
    (isp x.x x.y = true ∧ decide ((i : Int) > 0) = true ∧ 0 ≤ IntKind.i64.wrap ((i : Int) - 1) ∧ (l.map TPoint.en)[(IntKind.i64.wrap ((i : Int) - 1)).toNat]? = some (prevP l i).en ∧ okAt l i = !ptE (prevP l i) x) := by
  have hi := (List.getElem?_eq_some_iff.1 hx).1
  cases hI : isp x.x x.y
  · exact .inl ⟨rfl, by simp [okAt, hx, hI]⟩
  · rcases Nat.eq_zero_or_pos i with h0 | h0
    · subst h0
      exact .inr (.inl ⟨rfl, by simp, by simp [okAt, hx, hI]⟩)
    · have e : IntKind.i64.wrap ((i : Int) - 1) = ((i - 1 : Nat) : Int) := by rw [w64 (by omega) (by omega)]; omega
      refine .inr (.inr ⟨rfl, decide_eq_true (by omega), by omega, ?_, ?_⟩)
      · rw [e, Int.toNat_natCast, List.getElem?_map, List.getElem?_eq_getElem (show i - 1 < l.length by omega)]
        simp [prevP, List.getD_eq_getElem?_getD, List.getElem?_eq_getElem (show i - 1 < l.length by omega)]
      · have : (i == 0) = false := by simp; omega
        simp [okAt, hx, hI, this]
def stepsB (a b c d : Int) : Int := if isp a b && isp c d then wadd (wmax (wsub a c) (wsub c a)) (wmax (wsub b d) (wsub d b)) else -1
def segs (l : List TPoint) : List TSegment := if isLine l then List.zipWith TSegment.mk l l.tail else []
theorem isLine_len {l : List TPoint} (h : isLine l = true) : 2 ≤ l.length ∧ l.length ≤ 10 := by
  simp only [isLine, inr, Bool.and_eq_true, decide_eq_true_eq] at h
  omega
theorem segs_len {l : List TPoint} (h : isLine l = true) : (segs l).length = l.length - 1 := by simp [segs, h]
theorem segs_nil {l : List TPoint} (h : isLine l = false) : segs l = [] := by simp [segs, h]
theorem segs_le (l : List TPoint) : (segs l).length ≤ 9 := by
  cases h : isLine l
  · simp [segs_nil h]
  · have := isLine_len h; rw [segs_len h]; omega
theorem segs_get {l : List TPoint} {i : Nat} (h : i < (segs l).length) : ∃ a b, isLine l = true ∧ i + 1 < l.length ∧ l[i]? = some a ∧ l[i + 1]? = some b ∧ (segs l)[i]? = some ⟨a, b⟩ := by
  cases hL : isLine l
  · simp [segs_nil hL] at h
  · have h1 := h
    rw [segs_len hL] at h1
    refine ⟨l[i], l[i + 1], rfl, by omega, List.getElem?_eq_getElem (by omega), List.getElem?_eq_getElem (by omega), ?_⟩
    simp [segs, hL, List.getElem?_zipWith, List.getElem?_eq_getElem (show i < l.length by omega), List.getElem?_tail, List.getElem?_eq_getElem (show i + 1 < l.length by omega)]
theorem clo_rows {α : Type} {en : α → List AV} (h : ∀ a, ∀ x ∈ en a, Clo x) {l : List α} : ∀ r ∈ l.map en, ∀ x ∈ r, Clo x := fun r hr x hx => by
  obtain ⟨a, _, rfl⟩ := List.mem_map.1 hr
  exact h a x hx
theorem clo_rows_nil : ∀ r ∈ ([] : List (List AV)), ∀ x ∈ r, Clo x := fun r hr => by simp at hr
theorem map_take_succ {α β : Type} {f : α → β} {l : List α} {i : Nat} {x : α} (h : l[i]? = some x) : (l.take (i + 1)).map f = (l.take i).map f ++ [f x] := by rw [take_succ_of h]; simp
/-- What a fold over a list has come to. -/
def accF {α : Type} (f : Int → α → Int) (l : List α) (i : Nat) : Int := (l.take i).foldl f 0
theorem accF_succ {α : Type} {f : Int → α → Int} {l : List α} {i : Nat} {x : α} (h : l[i]? = some x) : accF f l (i + 1) = f (accF f l i) x := by simp [accF, take_succ_of h]
theorem accF_all {α : Type} {f : Int → α → Int} {l : List α} : accF f l l.length = l.foldl f 0 := by simp [accF]
abbrev stepS (n : Int) (s : TSegment) : Int := wadd n (stepsB s.a.x s.a.y s.b.x s.b.y)
def lineSteps (l : List TPoint) : Int := (segs l).foldl stepS 0
abbrev stepT (n : Int) (x : TFeature) : Int := if x.kind == 2 then wadd n (lineSteps x.points) else n
def totSteps (l : List TFeature) : Int := l.foldl stepT 0

set_option maxRecDepth 100000 in
set_option maxHeartbeats 2000000 in
theorem inr_v (a b c : Int) : VCalls Tryz.prog 29 [I a, I b, I c] (fun r M => r = B (inr a b c) ∧ M = []) := by
  refine VCalls.body Tryz.func29 rfl 12 rfl (fun E => ?_)
  simp only [List.reduceReplicate, List.cons_append, List.nil_append]
  repeat' ((first
    | ((with_reducible show AL _ _ _ _ _ _ _); first | refine AL.any ?_ | refine AL.U ?_ | refine AL.F ?_ | refine AL.T ?_ | refine AL.W ?_ | refine AL.nil ?_)
    | ((with_reducible show AW _ _ _ _ _ _); first | refine AW.seq ?_ | refine AW.region ?_ | refine AW.skip ?_ | refine AW.block ?_ | refine AW.exit ?_ | refine AW.ret ?_)
    | with_reducible refine (if_pos rfl).mpr ?_
    | with_reducible refine (if_neg (by decide)).mpr ?_) <;> (try dsimp only))
  all_goals exact Fin.one rfl (RV.tmp (by rfl)) (clo_c _) ⟨by first | rfl | (simp_all [inr]; done) | (simp only [inr]; split <;> simp_all <;> omega), rfl⟩

set_option maxRecDepth 100000 in
set_option maxHeartbeats 2000000 in
theorem inr_s (a b c : Int) : VCalls Tryz.prog 20 [I a, I b, I c] (fun r M => r = B (inr a b c) ∧ M = []) := by
  refine VCalls.body Tryz.func20 rfl 12 rfl (fun E => ?_)
  simp only [List.reduceReplicate, List.cons_append, List.nil_append]
  repeat' ((first
    | ((with_reducible show AL _ _ _ _ _ _ _); first | refine AL.any ?_ | refine AL.U ?_ | refine AL.F ?_ | refine AL.T ?_ | refine AL.W ?_ | refine AL.nil ?_)
    | ((with_reducible show AW _ _ _ _ _ _); first | refine AW.seq ?_ | refine AW.region ?_ | refine AW.skip ?_ | refine AW.block ?_ | refine AW.exit ?_ | refine AW.ret ?_)
    | with_reducible refine (if_pos rfl).mpr ?_
    | with_reducible refine (if_neg (by decide)).mpr ?_) <;> (try dsimp only))
  all_goals exact Fin.one rfl (RV.tmp (by rfl)) (clo_c _) ⟨by first | rfl | (simp_all [inr]; done) | (simp only [inr]; split <;> simp_all <;> omega), rfl⟩

set_option maxRecDepth 100000 in
set_option maxHeartbeats 2000000 in
theorem isp_v (x y : Int) : VCalls Tryz.prog 63 [.agg [I x, I y]] (fun r M => r = B (isp x y) ∧ M = []) := by
  refine VCalls.body Tryz.func63 rfl 10 rfl (fun E => ?_)
  simp only [List.reduceReplicate, List.cons_append, List.nil_append]
  repeat' ((first
    | ((with_reducible show AL _ _ _ _ _ _ _); first | refine AL.any ?_ | refine AL.any (h := POp.k Tryz.func29 (hc := inr_v _ _ _)) ?_ | refine AL.U ?_ | refine AL.F ?_ | refine AL.T ?_ | refine AL.T (h := POp.k Tryz.func29 (hc := inr_v _ _ _)) ?_ | refine AL.W ?_ | refine AL.W (h := fun h => by (try rw [h]); exact POp.k Tryz.func29 (hc := inr_v _ _ _)) ?_ | refine AL.nil ?_)
    | ((with_reducible show AW _ _ _ _ _ _); first | refine AW.seq ?_ | refine AW.region ?_ | refine AW.skip ?_ | refine AW.block ?_ | refine AW.exit ?_ | refine AW.ret ?_)
    | with_reducible refine (if_pos rfl).mpr ?_
    | with_reducible refine (if_neg (by decide)).mpr ?_) <;> (try dsimp only))
  all_goals exact Fin.one rfl (RV.tmp (by rfl)) (clo_c _) ⟨by first | rfl | (simp_all [isp]; done) | (simp only [isp]; split <;> simp_all <;> omega), rfl⟩

theorem isp_v_t (x y : Int) (h : isp x y = true) : VCalls Tryz.prog 63 [.agg [I x, I y]] (fun r M => r = B true ∧ M = []) := h ▸ isp_v x y
theorem isp_v_f (x y : Int) (h : isp x y = false) : VCalls Tryz.prog 63 [.agg [I x, I y]] (fun r M => r = B false ∧ M = []) := h ▸ isp_v x y
set_option maxRecDepth 100000 in
set_option maxHeartbeats 2000000 in
theorem isp_s (x y : Int) : VCalls Tryz.prog 53 [.agg [I x, I y]] (fun r M => r = B (isp x y) ∧ M = []) := by
  refine VCalls.body Tryz.func53 rfl 10 rfl (fun E => ?_)
  simp only [List.reduceReplicate, List.cons_append, List.nil_append]
  repeat' ((first
    | ((with_reducible show AL _ _ _ _ _ _ _); first | refine AL.any ?_ | refine AL.any (h := POp.k Tryz.func20 (hc := inr_s _ _ _)) ?_ | refine AL.U ?_ | refine AL.F ?_ | refine AL.T ?_ | refine AL.T (h := POp.k Tryz.func20 (hc := inr_s _ _ _)) ?_ | refine AL.W ?_ | refine AL.W (h := fun h => by (try rw [h]); exact POp.k Tryz.func20 (hc := inr_s _ _ _)) ?_ | refine AL.nil ?_)
    | ((with_reducible show AW _ _ _ _ _ _); first | refine AW.seq ?_ | refine AW.region ?_ | refine AW.skip ?_ | refine AW.block ?_ | refine AW.exit ?_ | refine AW.ret ?_)
    | with_reducible refine (if_pos rfl).mpr ?_
    | with_reducible refine (if_neg (by decide)).mpr ?_) <;> (try dsimp only))
  all_goals exact Fin.one rfl (RV.tmp (by rfl)) (clo_c _) ⟨by first | rfl | (simp_all [isp]; done) | (simp only [isp]; split <;> simp_all <;> omega), rfl⟩

theorem isp_s_t (x y : Int) (h : isp x y = true) : VCalls Tryz.prog 53 [.agg [I x, I y]] (fun r M => r = B true ∧ M = []) := h ▸ isp_s x y
theorem isp_s_f (x y : Int) (h : isp x y = false) : VCalls Tryz.prog 53 [.agg [I x, I y]] (fun r M => r = B false ∧ M = []) := h ▸ isp_s x y
set_option maxRecDepth 100000 in
set_option maxHeartbeats 2000000 in
theorem isLine_s (l : List TPoint) (hl : l.length ≤ 1048576) : VCalls Tryz.prog 74 [.ro 2 (l.map TPoint.en)] (fun r M => r = B (isLine l) ∧ M = []) := by
  refine VCalls.bodyE Tryz.func74 rfl 34 rfl (fun E hE => ?_)
  simp only [List.reduceReplicate, List.cons_append, List.nil_append]
  repeat' ((first
    | ((with_reducible show AL _ _ _ _ _ _ _); first | refine AL.any ?_ | refine AL.any (h := POp.k Tryz.func20 (hc := inr_s _ _ _)) ?_ | refine AL.any (h := POp.k Tryz.func53 (hc := by first | exact isp_s_t _ _ (by assumption) | exact isp_s_f _ _ (by assumption) | exact isp_s _ _)) ?_ | refine AL.U ?_ | refine AL.F ?_ | refine AL.T ?_ | refine AL.T (h := POp.k Tryz.func20 (hc := inr_s _ _ _)) ?_ | refine AL.T (h := POp.k Tryz.func53 (hc := by first | exact isp_s_t _ _ (by assumption) | exact isp_s_f _ _ (by assumption) | exact isp_s _ _)) ?_ | refine AL.W ?_ | refine AL.W (h := fun h => by (try rw [h]); exact POp.k Tryz.func20 (hc := inr_s _ _ _)) ?_ | refine AL.W (h := fun h => by (try rw [h]); exact POp.k Tryz.func53 (hc := by first | exact isp_s_t _ _ (by assumption) | exact isp_s_f _ _ (by assumption) | exact isp_s _ _)) ?_ | refine AL.nil ?_)
    | ((with_reducible show DL _ _ _ _ _ _ _); first | refine DL.any ?_ | refine DL.any (h := POp.k Tryz.func20 (hc := inr_s _ _ _)) ?_ | refine DL.any (h := POp.k Tryz.func53 (hc := by first | exact isp_s_t _ _ (by assumption) | exact isp_s_f _ _ (by assumption) | exact isp_s _ _)) ?_ | refine DL.U ?_ | refine DL.F ?_ | refine DL.T ?_ | refine DL.T (h := POp.k Tryz.func20 (hc := inr_s _ _ _)) ?_ | refine DL.T (h := POp.k Tryz.func53 (hc := by first | exact isp_s_t _ _ (by assumption) | exact isp_s_f _ _ (by assumption) | exact isp_s _ _)) ?_ | refine DL.W ?_ | refine DL.W (h := fun h => by (try rw [h]); exact POp.k Tryz.func20 (hc := inr_s _ _ _)) ?_ | refine DL.W (h := fun h => by (try rw [h]); exact POp.k Tryz.func53 (hc := by first | exact isp_s_t _ _ (by assumption) | exact isp_s_f _ _ (by assumption) | exact isp_s _ _)) ?_ | refine DL.nil ?_)
    | ((with_reducible show AW _ _ _ _ _ _); first | refine AW.seq ?_ | refine AW.region ?_ | refine AW.skip ?_ | (refine AW.loopD hE (fun i : Nat => [.ro 2 (l.map TPoint.en), .any, .any, I i, .any, .any, .any, .any, .any, .any, .any, .any, .any, .any, .any, .any, .any, .any, .any, .any, .any, .any, .any, .any, .any, .any, .any, .any, .any, .any, .any, .any, .any, .any, .any]) (fun i => []) (fun i => l.length - i) (fun i => i ≤ l.length ∧ ptsOk l i = true) 0 (by simp [ptsOk]) ?_ (by first | rfl | (simp [fil_zero]; done)) ?_) | refine AW.dr (id := 4) 19 ?_ | refine AW.cT ?_ | refine AW.cF ?_ | (refine AW.c2 ?_ ?_ <;> (intro h; try simp only [Bool.not_eq_true', Bool.not_eq_false'] at h)) | refine AW.block ?_ | refine AW.exit ?_ | refine AW.ret ?_)
    | with_reducible refine (if_pos rfl).mpr ?_
    | with_reducible refine (if_neg (by decide)).mpr ?_) <;> (try dsimp only))
  · (repeat' (first | exact Wk.nil | refine Wk.any ?_ | (with_reducible refine Wk.same ?_) | refine Wk.of ?_ ?_)) <;> first | rfl | (simp)
  · intro i hi
    have hclo : Clo (.ro 2 (l.map TPoint.en)) := clo_list TPoint.clo_en
    by_cases hlt : i < l.length
    · obtain ⟨x, hx⟩ : ∃ x, l[i]? = some x := ⟨_, List.getElem?_eq_getElem hlt⟩
      have hg := map_get (f := TPoint.en) hx
      have ht := lt_true (f := TPoint.en) hlt
      have hn := next_ix hlt (by omega)
      have hsu := ptsOk_succ l i
      have hpc := ptE_comm x (prevP l i)
      rcases ln_cases hx hl with ⟨hI, hk⟩ | ⟨hI, hz, hk⟩ | ⟨hI, hz, h0, hp, hk⟩
      repeat' ((first
        | ((with_reducible show AL _ _ _ _ _ _ _); first | refine AL.any ?_ | refine AL.any (h := POp.k Tryz.func20 (hc := inr_s _ _ _)) ?_ | refine AL.any (h := POp.k Tryz.func53 (hc := by first | exact isp_s_t _ _ (by assumption) | exact isp_s_f _ _ (by assumption) | exact isp_s _ _)) ?_ | refine AL.U ?_ | refine AL.F ?_ | refine AL.T ?_ | refine AL.T (h := POp.k Tryz.func20 (hc := inr_s _ _ _)) ?_ | refine AL.T (h := POp.k Tryz.func53 (hc := by first | exact isp_s_t _ _ (by assumption) | exact isp_s_f _ _ (by assumption) | exact isp_s _ _)) ?_ | refine AL.W ?_ | refine AL.W (h := fun h => by (try rw [h]); exact POp.k Tryz.func20 (hc := inr_s _ _ _)) ?_ | refine AL.W (h := fun h => by (try rw [h]); exact POp.k Tryz.func53 (hc := by first | exact isp_s_t _ _ (by assumption) | exact isp_s_f _ _ (by assumption) | exact isp_s _ _)) ?_ | refine AL.nil ?_)
        | ((with_reducible show DL _ _ _ _ _ _ _); first | refine DL.any ?_ | refine DL.any (h := POp.k Tryz.func20 (hc := inr_s _ _ _)) ?_ | refine DL.any (h := POp.k Tryz.func53 (hc := by first | exact isp_s_t _ _ (by assumption) | exact isp_s_f _ _ (by assumption) | exact isp_s _ _)) ?_ | refine DL.U ?_ | refine DL.F ?_ | refine DL.T ?_ | refine DL.T (h := POp.k Tryz.func20 (hc := inr_s _ _ _)) ?_ | refine DL.T (h := POp.k Tryz.func53 (hc := by first | exact isp_s_t _ _ (by assumption) | exact isp_s_f _ _ (by assumption) | exact isp_s _ _)) ?_ | refine DL.W ?_ | refine DL.W (h := fun h => by (try rw [h]); exact POp.k Tryz.func20 (hc := inr_s _ _ _)) ?_ | refine DL.W (h := fun h => by (try rw [h]); exact POp.k Tryz.func53 (hc := by first | exact isp_s_t _ _ (by assumption) | exact isp_s_f _ _ (by assumption) | exact isp_s _ _)) ?_ | refine DL.nil ?_)
        | ((with_reducible show AW _ _ _ _ _ _); first | refine AW.seq ?_ | refine AW.region ?_ | refine AW.skip ?_ | refine AW.dr (id := 4) 19 ?_ | refine AW.cT ?_ | refine AW.cF ?_ | (refine AW.c2 ?_ ?_ <;> (intro h; try simp only [Bool.not_eq_true', Bool.not_eq_false'] at h)) | refine AW.block ?_ | refine AW.exit ?_ | refine AW.ret ?_)
        | with_reducible refine (if_pos rfl).mpr ?_
        | with_reducible refine (if_neg (by decide)).mpr ?_) <;> (try dsimp only))
      all_goals first
        | (refine ⟨i + 1, _, ⟨hlt, by simp_all⟩, by omega, ?_, rfl, ?_, ?_⟩; (focus ((repeat' (first | exact Wk.nil | refine Wk.any ?_ | (with_reducible refine Wk.same ?_) | refine Wk.of ?_ ?_)) <;> (simp_all))); (focus ((repeat' (first | exact Fits.nil _ | refine Fits.cons ?_ ?_ | exact Fits.any _ | exact Fits.c _ _ | exact Fits.own (by rfl) | exact Fits.ref (by rfl) | exact Fits.clo (by assumption) | exact Fits.clo (clo_of (by rfl)) | exact Fits.clo (clo_fn _))))); (focus (exact FitsM.nil _)))
        | exact Fin.one rfl (RV.tmp (by rfl)) (clo_c _) ⟨by have hn := ptsOk_not (n := l.length) (by simp_all : okAt l i = false) hlt; simp_all [isLine], rfl⟩
    · have ht := lt_false (f := TPoint.en) hlt
      have e : i = l.length := by omega
      subst e
      try rw [List.take_length]
      repeat' ((first
        | ((with_reducible show AL _ _ _ _ _ _ _); first | refine AL.any ?_ | refine AL.any (h := POp.k Tryz.func20 (hc := inr_s _ _ _)) ?_ | refine AL.any (h := POp.k Tryz.func53 (hc := by first | exact isp_s_t _ _ (by assumption) | exact isp_s_f _ _ (by assumption) | exact isp_s _ _)) ?_ | refine AL.U ?_ | refine AL.F ?_ | refine AL.T ?_ | refine AL.T (h := POp.k Tryz.func20 (hc := inr_s _ _ _)) ?_ | refine AL.T (h := POp.k Tryz.func53 (hc := by first | exact isp_s_t _ _ (by assumption) | exact isp_s_f _ _ (by assumption) | exact isp_s _ _)) ?_ | refine AL.W ?_ | refine AL.W (h := fun h => by (try rw [h]); exact POp.k Tryz.func20 (hc := inr_s _ _ _)) ?_ | refine AL.W (h := fun h => by (try rw [h]); exact POp.k Tryz.func53 (hc := by first | exact isp_s_t _ _ (by assumption) | exact isp_s_f _ _ (by assumption) | exact isp_s _ _)) ?_ | refine AL.nil ?_)
        | ((with_reducible show DL _ _ _ _ _ _ _); first | refine DL.any ?_ | refine DL.any (h := POp.k Tryz.func20 (hc := inr_s _ _ _)) ?_ | refine DL.any (h := POp.k Tryz.func53 (hc := by first | exact isp_s_t _ _ (by assumption) | exact isp_s_f _ _ (by assumption) | exact isp_s _ _)) ?_ | refine DL.U ?_ | refine DL.F ?_ | refine DL.T ?_ | refine DL.T (h := POp.k Tryz.func20 (hc := inr_s _ _ _)) ?_ | refine DL.T (h := POp.k Tryz.func53 (hc := by first | exact isp_s_t _ _ (by assumption) | exact isp_s_f _ _ (by assumption) | exact isp_s _ _)) ?_ | refine DL.W ?_ | refine DL.W (h := fun h => by (try rw [h]); exact POp.k Tryz.func20 (hc := inr_s _ _ _)) ?_ | refine DL.W (h := fun h => by (try rw [h]); exact POp.k Tryz.func53 (hc := by first | exact isp_s_t _ _ (by assumption) | exact isp_s_f _ _ (by assumption) | exact isp_s _ _)) ?_ | refine DL.nil ?_)
        | ((with_reducible show AW _ _ _ _ _ _); first | refine AW.seq ?_ | refine AW.region ?_ | refine AW.skip ?_ | refine AW.dr (id := 4) 19 ?_ | refine AW.cT ?_ | refine AW.cF ?_ | (refine AW.c2 ?_ ?_ <;> (intro h; try simp only [Bool.not_eq_true', Bool.not_eq_false'] at h)) | refine AW.block ?_ | refine AW.exit ?_ | refine AW.ret ?_)
        | with_reducible refine (if_pos rfl).mpr ?_
        | with_reducible refine (if_neg (by decide)).mpr ?_) <;> (try dsimp only))
      all_goals exact Fin.one rfl (RV.tmp (by rfl)) (clo_c _) ⟨by simp_all [isLine], rfl⟩

set_option maxRecDepth 100000 in
set_option maxHeartbeats 2000000 in
theorem isLine_i (l : List TPoint) (hl : l.length ≤ 1048576) : VCalls Tryz.prog 80 [.ro 2 (l.map TPoint.en)] (fun r M => r = B (isLine l) ∧ M = []) := by
  refine VCalls.bodyE Tryz.func80 rfl 36 rfl (fun E hE => ?_)
  simp only [List.reduceReplicate, List.cons_append, List.nil_append]
  repeat' ((first
    | ((with_reducible show AL _ _ _ _ _ _ _); first | refine AL.any ?_ | refine AL.any (h := POp.k Tryz.func63 (hc := by first | exact isp_v_t _ _ (by assumption) | exact isp_v_f _ _ (by assumption) | exact isp_v _ _)) ?_ | refine AL.U ?_ | refine AL.F ?_ | refine AL.T ?_ | refine AL.T (h := POp.k Tryz.func63 (hc := by first | exact isp_v_t _ _ (by assumption) | exact isp_v_f _ _ (by assumption) | exact isp_v _ _)) ?_ | refine AL.W ?_ | refine AL.W (h := fun h => by (try rw [h]); exact POp.k Tryz.func63 (hc := by first | exact isp_v_t _ _ (by assumption) | exact isp_v_f _ _ (by assumption) | exact isp_v _ _)) ?_ | refine AL.nil ?_)
    | ((with_reducible show DL _ _ _ _ _ _ _); first | refine DL.any ?_ | refine DL.any (h := POp.k Tryz.func63 (hc := by first | exact isp_v_t _ _ (by assumption) | exact isp_v_f _ _ (by assumption) | exact isp_v _ _)) ?_ | refine DL.U ?_ | refine DL.F ?_ | refine DL.T ?_ | refine DL.T (h := POp.k Tryz.func63 (hc := by first | exact isp_v_t _ _ (by assumption) | exact isp_v_f _ _ (by assumption) | exact isp_v _ _)) ?_ | refine DL.W ?_ | refine DL.W (h := fun h => by (try rw [h]); exact POp.k Tryz.func63 (hc := by first | exact isp_v_t _ _ (by assumption) | exact isp_v_f _ _ (by assumption) | exact isp_v _ _)) ?_ | refine DL.nil ?_)
    | ((with_reducible show AW _ _ _ _ _ _); first | refine AW.seq ?_ | refine AW.region ?_ | refine AW.skip ?_ | (refine AW.loopD hE (fun i : Nat => [.ro 2 (l.map TPoint.en), .any, .any, .any, .any, .any, .any, .any, .any, .any, .any, .any, .any, .ro 2 (l.map TPoint.en), I (l.map TPoint.en).length, I i, .any, .any, .any, .any, .any, .any, .any, .any, .any, .any, .any, .any, .any, .any, .any, .any, .any, .any, .any, .any, .any]) (fun i => []) (fun i => l.length - i) (fun i => i ≤ l.length ∧ ptsOk l i = true) 0 (by simp [ptsOk]) ?_ (by first | rfl | (simp [fil_zero]; done)) ?_) | refine AW.dr (id := 6) 13 ?_ | refine AW.cT ?_ | refine AW.cF ?_ | (refine AW.c2 ?_ ?_ <;> (intro h; try simp only [Bool.not_eq_true', Bool.not_eq_false'] at h)) | refine AW.block ?_ | refine AW.exit ?_ | refine AW.ret ?_)
    | with_reducible refine (if_pos rfl).mpr ?_
    | with_reducible refine (if_neg (by decide)).mpr ?_) <;> (try dsimp only))
  · exact Fin.one rfl (RV.tmp (by rfl)) (clo_c _) ⟨by simp_all [isLine, inr] <;> omega, rfl⟩
  · (repeat' (first | exact Wk.nil | refine Wk.any ?_ | (with_reducible refine Wk.same ?_) | refine Wk.of ?_ ?_)) <;> first | rfl | (simp)
  · intro i hi
    have hclo : Clo (.ro 2 (l.map TPoint.en)) := clo_list TPoint.clo_en
    by_cases hlt : i < l.length
    · obtain ⟨x, hx⟩ : ∃ x, l[i]? = some x := ⟨_, List.getElem?_eq_getElem hlt⟩
      have hg := map_get (f := TPoint.en) hx
      have ht := lt_true (f := TPoint.en) hlt
      have hn := next_ix hlt (by omega)
      have hsu := ptsOk_succ l i
      have hpc := ptE_comm x (prevP l i)
      rcases ln_cases hx hl with ⟨hI, hk⟩ | ⟨hI, hz, hk⟩ | ⟨hI, hz, h0, hp, hk⟩
      repeat' ((first
        | ((with_reducible show AL _ _ _ _ _ _ _); first | refine AL.any ?_ | refine AL.any (h := POp.k Tryz.func63 (hc := by first | exact isp_v_t _ _ (by assumption) | exact isp_v_f _ _ (by assumption) | exact isp_v _ _)) ?_ | refine AL.U ?_ | refine AL.F ?_ | refine AL.T ?_ | refine AL.T (h := POp.k Tryz.func63 (hc := by first | exact isp_v_t _ _ (by assumption) | exact isp_v_f _ _ (by assumption) | exact isp_v _ _)) ?_ | refine AL.W ?_ | refine AL.W (h := fun h => by (try rw [h]); exact POp.k Tryz.func63 (hc := by first | exact isp_v_t _ _ (by assumption) | exact isp_v_f _ _ (by assumption) | exact isp_v _ _)) ?_ | refine AL.nil ?_)
        | ((with_reducible show DL _ _ _ _ _ _ _); first | refine DL.any ?_ | refine DL.any (h := POp.k Tryz.func63 (hc := by first | exact isp_v_t _ _ (by assumption) | exact isp_v_f _ _ (by assumption) | exact isp_v _ _)) ?_ | refine DL.U ?_ | refine DL.F ?_ | refine DL.T ?_ | refine DL.T (h := POp.k Tryz.func63 (hc := by first | exact isp_v_t _ _ (by assumption) | exact isp_v_f _ _ (by assumption) | exact isp_v _ _)) ?_ | refine DL.W ?_ | refine DL.W (h := fun h => by (try rw [h]); exact POp.k Tryz.func63 (hc := by first | exact isp_v_t _ _ (by assumption) | exact isp_v_f _ _ (by assumption) | exact isp_v _ _)) ?_ | refine DL.nil ?_)
        | ((with_reducible show AW _ _ _ _ _ _); first | refine AW.seq ?_ | refine AW.region ?_ | refine AW.skip ?_ | refine AW.dr (id := 6) 13 ?_ | refine AW.cT ?_ | refine AW.cF ?_ | (refine AW.c2 ?_ ?_ <;> (intro h; try simp only [Bool.not_eq_true', Bool.not_eq_false'] at h)) | refine AW.block ?_ | refine AW.exit ?_ | refine AW.ret ?_)
        | with_reducible refine (if_pos rfl).mpr ?_
        | with_reducible refine (if_neg (by decide)).mpr ?_) <;> (try dsimp only))
      all_goals first
        | (refine ⟨i + 1, _, ⟨hlt, by simp_all⟩, by omega, ?_, rfl, ?_, ?_⟩; (focus ((repeat' (first | exact Wk.nil | refine Wk.any ?_ | (with_reducible refine Wk.same ?_) | refine Wk.of ?_ ?_)) <;> (simp_all))); (focus ((repeat' (first | exact Fits.nil _ | refine Fits.cons ?_ ?_ | exact Fits.any _ | exact Fits.c _ _ | exact Fits.own (by rfl) | exact Fits.ref (by rfl) | exact Fits.clo (by assumption) | exact Fits.clo (clo_of (by rfl)) | exact Fits.clo (clo_fn _))))); (focus (exact FitsM.nil _)))
        | exact Fin.one rfl (RV.tmp (by rfl)) (clo_c _) ⟨by have hn := ptsOk_not (n := l.length) (by simp_all : okAt l i = false) hlt; simp_all [isLine], rfl⟩
    · have ht := lt_false (f := TPoint.en) hlt
      have e : i = l.length := by omega
      subst e
      try rw [List.take_length]
      repeat' ((first
        | ((with_reducible show AL _ _ _ _ _ _ _); first | refine AL.any ?_ | refine AL.any (h := POp.k Tryz.func63 (hc := by first | exact isp_v_t _ _ (by assumption) | exact isp_v_f _ _ (by assumption) | exact isp_v _ _)) ?_ | refine AL.U ?_ | refine AL.F ?_ | refine AL.T ?_ | refine AL.T (h := POp.k Tryz.func63 (hc := by first | exact isp_v_t _ _ (by assumption) | exact isp_v_f _ _ (by assumption) | exact isp_v _ _)) ?_ | refine AL.W ?_ | refine AL.W (h := fun h => by (try rw [h]); exact POp.k Tryz.func63 (hc := by first | exact isp_v_t _ _ (by assumption) | exact isp_v_f _ _ (by assumption) | exact isp_v _ _)) ?_ | refine AL.nil ?_)
        | ((with_reducible show DL _ _ _ _ _ _ _); first | refine DL.any ?_ | refine DL.any (h := POp.k Tryz.func63 (hc := by first | exact isp_v_t _ _ (by assumption) | exact isp_v_f _ _ (by assumption) | exact isp_v _ _)) ?_ | refine DL.U ?_ | refine DL.F ?_ | refine DL.T ?_ | refine DL.T (h := POp.k Tryz.func63 (hc := by first | exact isp_v_t _ _ (by assumption) | exact isp_v_f _ _ (by assumption) | exact isp_v _ _)) ?_ | refine DL.W ?_ | refine DL.W (h := fun h => by (try rw [h]); exact POp.k Tryz.func63 (hc := by first | exact isp_v_t _ _ (by assumption) | exact isp_v_f _ _ (by assumption) | exact isp_v _ _)) ?_ | refine DL.nil ?_)
        | ((with_reducible show AW _ _ _ _ _ _); first | refine AW.seq ?_ | refine AW.region ?_ | refine AW.skip ?_ | refine AW.dr (id := 6) 13 ?_ | refine AW.cT ?_ | refine AW.cF ?_ | (refine AW.c2 ?_ ?_ <;> (intro h; try simp only [Bool.not_eq_true', Bool.not_eq_false'] at h)) | refine AW.block ?_ | refine AW.exit ?_ | refine AW.ret ?_)
        | with_reducible refine (if_pos rfl).mpr ?_
        | with_reducible refine (if_neg (by decide)).mpr ?_) <;> (try dsimp only))
      all_goals exact Fin.one rfl (RV.tmp (by rfl)) (clo_c _) ⟨by simp_all [isLine, inr] <;> omega, rfl⟩

set_option maxRecDepth 100000 in
set_option maxHeartbeats 2000000 in
theorem max_s (a b : Int) : VCalls Tryz.prog 90 [I a, I b] (fun r M => r = I (wmax a b) ∧ M = []) := by
  refine VCalls.body Tryz.func90 rfl 8 rfl (fun E => ?_)
  simp only [List.reduceReplicate, List.cons_append, List.nil_append]
  repeat' ((first
    | ((with_reducible show AL _ _ _ _ _ _ _); first | refine AL.any ?_ | refine AL.nil ?_)
    | ((with_reducible show AW _ _ _ _ _ _); first | refine AW.seq ?_ | refine AW.region ?_ | refine AW.skip ?_ | refine AW.cT ?_ | refine AW.cF ?_ | (refine AW.c2 ?_ ?_ <;> (intro h; try simp only [Bool.not_eq_true', Bool.not_eq_false'] at h)) | refine AW.block ?_ | refine AW.exit ?_ | refine AW.ret ?_)
    | with_reducible refine (if_pos rfl).mpr ?_
    | with_reducible refine (if_neg (by decide)).mpr ?_) <;> (try dsimp only))
  all_goals exact Fin.one rfl (RV.tmp (by rfl)) (clo_c _) ⟨by first | rfl | (simp_all [wmax]; done) | (simp only [wmax]; split <;> simp_all <;> omega), rfl⟩

end Go.Proofs.YtolmophnimngjaaGreat.Abs
