/- Part A of the walk over abstract states and of the functions' walks. -/
import Derived.Test.YtpffahmmklpifaaGreatWkStep
import Derived.Test.YtpffahmmklpifaaGreatWkTo
import Derived.Test.YtpffahmmklpifaaGreatWkEq
import Derived.Test.YtpffahmmklpifaaGreatGeo
/- The walks of points and lines. -/
namespace Go.Proofs.YtpffahmmklpifaaGreat.Abs
open Go.Proofs Go.RowKit
set_option linter.unusedVariables false
set_option linter.unusedSimpArgs false
set_option maxRecDepth 100000
set_option maxHeartbeats 2000000
attribute [local irreducible] OpA AL AW DL DLM DLR DLS QOp POp VCalls VCallsI
def inr (a b c : Int) : Bool := decide (b ≤ a) && decide (a ≤ c)
def isp (x y : Int) : Bool := inr x 0 200 && inr y 0 200
abbrev wadd (a b : Int) : Int := IntKind.i64.wrap (a + b)
def wmax (a b : Int) : Int := if b > a then b else a
abbrev ptE (a b : TPoint) : Bool := eqVs [.int .i64 a.x, .int .i64 a.y] [.int .i64 b.x, .int .i64 b.y]
theorem ptE_comm (a b : TPoint) : ptE a b = ptE b a := by simp [ptE, eqVs, eqV, Bool.beq_comm, BEq.comm]
def prevP (l : List TPoint) (i : Nat) : TPoint := l.getD (i - 1) ⟨0, 0⟩
def okAt (l : List TPoint) (i : Nat) : Bool := match l[i]? with
  | none => false
  | some x => isp x.x x.y && (i == 0 || !ptE (prevP l i) x)
def ptsOk (l : List TPoint) (n : Nat) : Bool := (List.range n).all (okAt l)
theorem ptsOk_succ (l : List TPoint) (i : Nat) : ptsOk l (i + 1) = (ptsOk l i && okAt l i) := by simp [ptsOk, List.range_succ]
theorem ptsOk_not {l : List TPoint} {i n : Nat} (h : okAt l i = false) (hi : i < n) : ptsOk l n = false := by
  simp only [ptsOk, List.all_eq_false, List.mem_range]
  exact ⟨i, hi, by simp [h]⟩
def isLine (l : List TPoint) : Bool := inr l.length 2 10 && ptsOk l l.length
theorem ln_cases {l : List TPoint} {i : Nat} {x : TPoint} (hx : l[i]? = some x) (hl : l.length ≤ 1048576) :
    (isp x.x x.y = false ∧ okAt l i = false) ∨ (isp x.x x.y = true ∧ decide ((i : Int) > 0) = false ∧ okAt l i = true) ∨
    (isp x.x x.y = true ∧ decide ((i : Int) > 0) = true ∧ 0 ≤ IntKind.i64.wrap ((i : Int) - 1) ∧ (l.map TPoint.en)[(IntKind.i64.wrap ((i : Int) - 1)).toNat]? = some (prevP l i).en ∧ okAt l i = !ptE (prevP l i) x) := by
  have hi := (List.getElem?_eq_some_iff.1 hx).1
  cases hI : isp x.x x.y
  · exact .inl ⟨rfl, by simp [okAt, hx, hI]⟩
  · rcases Nat.eq_zero_or_pos i with h0 | h0
    · subst h0
      exact .inr (.inl ⟨rfl, by simp, by simp [okAt, hx, hI]⟩)
    · have e : IntKind.i64.wrap ((i : Int) - 1) = ((i - 1 : Nat) : Int) := by rw [w64 (by omega) (by omega)]; omega
      refine .inr (.inr ⟨rfl, decide_eq_true (by omega), by omega, ?_, ?_⟩)
      · rw [e, Int.toNat_natCast, List.getElem?_map, List.getElem?_eq_getElem (show i - 1 < l.length by omega)]
        simp [prevP, List.getD_eq_getElem?_getD, List.getElem?_eq_getElem (show i - 1 < l.length by omega)]
      · have : (i == 0) = false := by simp; omega
        simp [okAt, hx, hI, this]
def segs (l : List TPoint) : List TSegment := if isLine l then List.zipWith TSegment.mk l l.tail else []
theorem isLine_len {l : List TPoint} (h : isLine l = true) : 2 ≤ l.length ∧ l.length ≤ 10 := by
  simp only [isLine, inr, Bool.and_eq_true, decide_eq_true_eq] at h
  omega
theorem segs_len {l : List TPoint} (h : isLine l = true) : (segs l).length = l.length - 1 := by simp [segs, h]
theorem segs_nil {l : List TPoint} (h : isLine l = false) : segs l = [] := by simp [segs, h]
theorem segs_le (l : List TPoint) : (segs l).length ≤ 9 := by
  cases h : isLine l
  · simp [segs_nil h]
  · have := isLine_len h; rw [segs_len h]; omega
theorem segs_get {l : List TPoint} {i : Nat} (h : i < (segs l).length) : ∃ a b, isLine l = true ∧ i + 1 < l.length ∧ l[i]? = some a ∧ l[i + 1]? = some b ∧ (segs l)[i]? = some ⟨a, b⟩ := by
  cases hL : isLine l
  · simp [segs_nil hL] at h
  · have h1 := h
    rw [segs_len hL] at h1
    refine ⟨l[i], l[i + 1], rfl, by omega, List.getElem?_eq_getElem (by omega), List.getElem?_eq_getElem (by omega), ?_⟩
    simp [segs, hL, List.getElem?_zipWith, List.getElem?_eq_getElem (show i < l.length by omega), List.getElem?_tail, List.getElem?_eq_getElem (show i + 1 < l.length by omega)]
theorem clo_rows {α : Type} {en : α → List AV} (h : ∀ a, ∀ x ∈ en a, Clo x) {l : List α} : ∀ r ∈ l.map en, ∀ x ∈ r, Clo x := fun r hr x hx => by
  obtain ⟨a, _, rfl⟩ := List.mem_map.1 hr
  exact h a x hx
theorem clo_rows_nil : ∀ r ∈ ([] : List (List AV)), ∀ x ∈ r, Clo x := fun r hr => by simp at hr
theorem map_take_succ {α β : Type} {f : α → β} {l : List α} {i : Nat} {x : α} (h : l[i]? = some x) : (l.take (i + 1)).map f = (l.take i).map f ++ [f x] := by rw [take_succ_of h]; simp
def accF {α : Type} (f : Int → α → Int) (l : List α) (i : Nat) : Int := (l.take i).foldl f 0
theorem accF_succ {α : Type} {f : Int → α → Int} {l : List α} {i : Nat} {x : α} (h : l[i]? = some x) : accF f l (i + 1) = f (accF f l i) x := by simp [accF, take_succ_of h]
theorem accF_all {α : Type} {f : Int → α → Int} {l : List α} : accF f l l.length = l.foldl f 0 := by simp [accF]
theorem inr_v (a b c : Int) : VCalls Tryz.prog 145 [I a, I b, I c] (fun r M => r = B (inr a b c) ∧ M = []) := by
  refine VB Tryz.func145 12 (fun E hE => ?_)
  repeat' ((first
    | (refine iAL ?_; first | refine AL.any ?_ | refine AL.U ?_ | refine AL.F ?_ | refine AL.T ?_ | refine AL.W ?_ | refine AL.nil ?_)
    | (refine iAW ?_; first | (refine AW.c0 ?_; constructor))) <;> (try dsimp only))
  all_goals exact Fin.one rfl (RV.tmp (by rfl)) (clo_c _) ⟨by first | rfl | (simp_all [inr]; done) | (simp only [inr]; split <;> simp_all <;> omega), rfl⟩

theorem inr_s (a b c : Int) : VCalls Tryz.prog 96 [I a, I b, I c] (fun r M => r = B (inr a b c) ∧ M = []) := by
  refine VB Tryz.func96 12 (fun E hE => ?_)
  repeat' ((first
    | (refine iAL ?_; first | refine AL.any ?_ | refine AL.U ?_ | refine AL.F ?_ | refine AL.T ?_ | refine AL.W ?_ | refine AL.nil ?_)
    | (refine iAW ?_; first | (refine AW.c0 ?_; constructor))) <;> (try dsimp only))
  all_goals exact Fin.one rfl (RV.tmp (by rfl)) (clo_c _) ⟨by first | rfl | (simp_all [inr]; done) | (simp only [inr]; split <;> simp_all <;> omega), rfl⟩

theorem isp_v (x y : Int) : VCalls Tryz.prog 180 [.agg [I x, I y]] (fun r M => r = B (isp x y) ∧ M = []) := by
  refine VB Tryz.func180 10 (fun E hE => ?_)
  repeat' ((first
    | (refine iAL ?_; first | refine AL.any ?_ | refine AL.any (h := POp.k Tryz.func145 (hc := inr_v _ _ _)) ?_ | refine AL.U ?_ | refine AL.F ?_ | refine AL.T ?_ | refine AL.T (h := POp.k Tryz.func145 (hc := inr_v _ _ _)) ?_ | refine AL.W ?_ | refine AL.W (h := fun h => by (try rw [h]); exact POp.k Tryz.func145 (hc := inr_v _ _ _)) ?_ | refine AL.nil ?_)
    | (refine iAW ?_; first | (refine AW.c0 ?_; constructor))) <;> (try dsimp only))
  all_goals exact Fin.one rfl (RV.tmp (by rfl)) (clo_c _) ⟨by first | rfl | (simp_all [isp]; done) | (simp only [isp]; split <;> simp_all <;> omega), rfl⟩

theorem isp_v_t (x y : Int) (h : isp x y = true) : VCalls Tryz.prog 180 [.agg [I x, I y]] (fun r M => r = B true ∧ M = []) := h ▸ isp_v x y
theorem isp_v_f (x y : Int) (h : isp x y = false) : VCalls Tryz.prog 180 [.agg [I x, I y]] (fun r M => r = B false ∧ M = []) := h ▸ isp_v x y
theorem isp_s (x y : Int) : VCalls Tryz.prog 170 [.agg [I x, I y]] (fun r M => r = B (isp x y) ∧ M = []) := by
  refine VB Tryz.func170 10 (fun E hE => ?_)
  repeat' ((first
    | (refine iAL ?_; first | refine AL.any ?_ | refine AL.any (h := POp.k Tryz.func96 (hc := inr_s _ _ _)) ?_ | refine AL.U ?_ | refine AL.F ?_ | refine AL.T ?_ | refine AL.T (h := POp.k Tryz.func96 (hc := inr_s _ _ _)) ?_ | refine AL.W ?_ | refine AL.W (h := fun h => by (try rw [h]); exact POp.k Tryz.func96 (hc := inr_s _ _ _)) ?_ | refine AL.nil ?_)
    | (refine iAW ?_; first | (refine AW.c0 ?_; constructor))) <;> (try dsimp only))
  all_goals exact Fin.one rfl (RV.tmp (by rfl)) (clo_c _) ⟨by first | rfl | (simp_all [isp]; done) | (simp only [isp]; split <;> simp_all <;> omega), rfl⟩

theorem isp_s_t (x y : Int) (h : isp x y = true) : VCalls Tryz.prog 170 [.agg [I x, I y]] (fun r M => r = B true ∧ M = []) := h ▸ isp_s x y
theorem isp_s_f (x y : Int) (h : isp x y = false) : VCalls Tryz.prog 170 [.agg [I x, I y]] (fun r M => r = B false ∧ M = []) := h ▸ isp_s x y
theorem isLine_s (l : List TPoint) (hl : l.length ≤ 1048576) : VCalls Tryz.prog 238 [.ro 2 (l.map TPoint.en)] (fun r M => r = B (isLine l) ∧ M = []) := by
  refine VB Tryz.func238 34 (fun E hE => ?_)
  repeat' ((first
    | (refine iAL ?_; first | refine AL.any ?_ | refine AL.any (h := POp.k Tryz.func96 (hc := inr_s _ _ _)) ?_ | refine AL.U ?_ | refine AL.F ?_ | refine AL.T ?_ | refine AL.W ?_ | refine AL.nil ?_)
    | ((with_reducible show DL ..); first | refine DL.any ?_ | refine DL.any (h := POp.k Tryz.func170 (hc := by first | exact isp_s_t _ _ (by assumption) | exact isp_s_f _ _ (by assumption) | exact isp_s _ _)) ?_ | refine DL.U ?_ | refine DL.F ?_ | refine DL.T ?_ | refine DL.W ?_ | refine DL.nil ?_)
    | (refine iAW ?_; first | (refine AW.c0 ?_; constructor) | refine AW.dr (id := 4) 19 ?_ | refine AW.cT ?_ | refine AW.cF ?_ | (refine AW.c2 ?_ ?_ <;> (intro h; try simp only [bT, bF] at h)))
    | (refine AW.loopD hE (fun i : Nat => [.ro 2 (l.map TPoint.en), .any, .any, I i, .any, .any, .any, .any, .any, .any, .any, .any, .any, .any, .any, .any, .any, .any, .any, .any, .any, .any, .any, .any, .any, .any, .any, .any, .any, .any, .any, .any, .any, .any, .any]) (fun i => []) (fun i => l.length - i) (fun i => i ≤ l.length ∧ ptsOk l i = true) 0 (by simp [ptsOk]) ?_ (by first | rfl | (simp [fil_zero]; done)) ?_
       (focus (exact wkI))
       intro i hi
       have hclo : Clo (.ro 2 (l.map TPoint.en)) := clo_list TPoint.clo_en
       by_cases hlt : i < l.length
       case' pos =>
         have hP := True.intro
         obtain ⟨x, hx⟩ : ∃ x, l[i]? = some x := ⟨_, List.getElem?_eq_getElem hlt⟩
         have hg := map_get (f := TPoint.en) hx
         have ht := lt_true (f := TPoint.en) hlt
         have hn := next_ix hlt (by omega)
         have hsu := ptsOk_succ l i
         have hpc := ptE_comm x (prevP l i)
         rcases ln_cases hx hl with ⟨hI, hk⟩ | ⟨hI, hz, hk⟩ | ⟨hI, hz, h0, hp, hk⟩
       case' neg =>
         have hQ := True.intro
         have ht := lt_false (f := TPoint.en) hlt
         have e : i = l.length := by omega
         subst e
         try rw [List.take_length])
    | with_reducible refine ifP ?_
    | with_reducible refine ifN ?_) <;> (try dsimp only))
  all_goals first
    | (have _ := hP; (refine ⟨i + 1, _, ⟨hlt, by simp_all⟩, by omega, ?_, rfl, ?_, ?_⟩; (focus (exact wkN)); (focus (exact fitsA)); (focus (exact FitsM.nil _))))
    | (have _ := hP; exact Fin.one rfl (RV.tmp (by rfl)) (clo_c _) ⟨by have hn := ptsOk_not (n := l.length) (by simp_all : okAt l i = false) hlt; simp_all [isLine], rfl⟩)
    | (have _ := hQ; exact Fin.one rfl (RV.tmp (by rfl)) (clo_c _) ⟨by simp_all [isLine], rfl⟩)

theorem isLine_i (l : List TPoint) (hl : l.length ≤ 1048576) : VCalls Tryz.prog 245 [.ro 2 (l.map TPoint.en)] (fun r M => r = B (isLine l) ∧ M = []) := by
  refine VB Tryz.func245 36 (fun E hE => ?_)
  repeat' ((first
    | (refine iAL ?_; first | refine AL.any ?_ | refine AL.U ?_ | refine AL.F ?_ | refine AL.T ?_ | refine AL.W ?_ | refine AL.nil ?_)
    | ((with_reducible show DL ..); first | refine DL.any ?_ | refine DL.any (h := POp.k Tryz.func180 (hc := by first | exact isp_v_t _ _ (by assumption) | exact isp_v_f _ _ (by assumption) | exact isp_v _ _)) ?_ | refine DL.U ?_ | refine DL.F ?_ | refine DL.T ?_ | refine DL.W ?_ | refine DL.nil ?_)
    | (refine iAW ?_; first | (refine AW.c0 ?_; constructor) | refine AW.dr (id := 6) 13 ?_ | refine AW.cT ?_ | refine AW.cF ?_ | (refine AW.c2 ?_ ?_ <;> (intro h; try simp only [bT, bF] at h)))
    | (refine AW.loopD hE (fun i : Nat => [.ro 2 (l.map TPoint.en), .any, .any, .any, .any, .any, .any, .any, .any, .any, .any, .any, .any, .ro 2 (l.map TPoint.en), I (l.map TPoint.en).length, I i, .any, .any, .any, .any, .any, .any, .any, .any, .any, .any, .any, .any, .any, .any, .any, .any, .any, .any, .any, .any, .any]) (fun i => []) (fun i => l.length - i) (fun i => i ≤ l.length ∧ ptsOk l i = true) 0 (by simp [ptsOk]) ?_ (by first | rfl | (simp [fil_zero]; done)) ?_
       (focus (exact wkI))
       intro i hi
       have hclo : Clo (.ro 2 (l.map TPoint.en)) := clo_list TPoint.clo_en
       by_cases hlt : i < l.length
       case' pos =>
         have hP := True.intro
         obtain ⟨x, hx⟩ : ∃ x, l[i]? = some x := ⟨_, List.getElem?_eq_getElem hlt⟩
         have hg := map_get (f := TPoint.en) hx
         have ht := lt_true (f := TPoint.en) hlt
         have hn := next_ix hlt (by omega)
         have hsu := ptsOk_succ l i
         have hpc := ptE_comm x (prevP l i)
         rcases ln_cases hx hl with ⟨hI, hk⟩ | ⟨hI, hz, hk⟩ | ⟨hI, hz, h0, hp, hk⟩
       case' neg =>
         have hQ := True.intro
         have ht := lt_false (f := TPoint.en) hlt
         have e : i = l.length := by omega
         subst e
         try rw [List.take_length])
    | with_reducible refine ifP ?_
    | with_reducible refine ifN ?_) <;> (try dsimp only))
  all_goals first
    | (have _ := hP; (refine ⟨i + 1, _, ⟨hlt, by simp_all⟩, by omega, ?_, rfl, ?_, ?_⟩; (focus (exact wkN)); (focus (exact fitsA)); (focus (exact FitsM.nil _))))
    | (have _ := hP; exact Fin.one rfl (RV.tmp (by rfl)) (clo_c _) ⟨by have hn := ptsOk_not (n := l.length) (by simp_all : okAt l i = false) hlt; simp_all [isLine], rfl⟩)
    | (have _ := hQ; exact Fin.one rfl (RV.tmp (by rfl)) (clo_c _) ⟨by simp_all [isLine, inr] <;> omega, rfl⟩)
    | (exact Fin.one rfl (RV.tmp (by rfl)) (clo_c _) ⟨by simp_all [isLine, inr] <;> omega, rfl⟩)

theorem max_s (a b : Int) : VCalls Tryz.prog 222 [I a, I b] (fun r M => r = I (wmax a b) ∧ M = []) := by
  refine VB Tryz.func222 8 (fun E hE => ?_)
  repeat' ((first
    | (refine iAL ?_; first | refine AL.any ?_ | refine AL.nil ?_)
    | (refine iAW ?_; first | (refine AW.c0 ?_; constructor) | refine AW.cT ?_ | refine AW.cF ?_ | (refine AW.c2 ?_ ?_ <;> (intro h; try simp only [bT, bF] at h)))) <;> (try dsimp only))
  all_goals exact Fin.one rfl (RV.tmp (by rfl)) (clo_c _) ⟨by first | rfl | (simp_all [wmax]; done) | (simp only [wmax]; split <;> simp_all <;> omega), rfl⟩

abbrev wmul (a b : Int) : Int := IntKind.i64.wrap (a * b)
def wmin (a b : Int) : Int := if b < a then b else a
def isSeg (s : TSegment) : Bool := isp s.a.x s.a.y && isp s.b.x s.b.y && !ptE s.a s.b
def crW (a b p : TPoint) : Int := wsub (wmul (wsub b.x a.x) (wsub p.y a.y)) (wmul (wsub b.y a.y) (wsub p.x a.x))
def sdW (a b p : TPoint) : Int := if isp a.x a.y && isp b.x b.y && isp p.x p.y then sg (crW a b p) else 0
def cmpI (x y : Int) : Int := if x < y then -1 else if x > y then 1 else 0
def onW (s : TSegment) (p : TPoint) : Bool := isSeg s && isp p.x p.y && (crW s.a s.b p == 0) && inr p.x (wmin s.a.x s.b.x) (wmax s.a.x s.b.x) && inr p.y (wmin s.a.y s.b.y) (wmax s.a.y s.b.y)
theorem sdW_zero {a b p : TPoint} (h1 : isp a.x a.y = true) (h2 : isp b.x b.y = true) (h3 : isp p.x p.y = true) : (sdW a b p == 0) = (crW a b p == 0) := by
  unfold sdW
  rw [h1, h2, h3]
  simp only [Bool.and_self, if_true]
  have := sg_zero (n := crW a b p)
  cases h : (crW a b p == 0)
  · simp at h ⊢; omega
  · simp at h ⊢; omega
def onWI (s : TSegment) (p : TPoint) : Bool := isSeg s && isp p.x p.y && (sdW s.a s.b p == 0) && inr p.x (if s.b.x < s.a.x then s.b.x else s.a.x) (if s.b.x > s.a.x then s.b.x else s.a.x) && inr p.y (if s.b.y < s.a.y then s.b.y else s.a.y) (if s.b.y > s.a.y then s.b.y else s.a.y)
theorem onWI_eq (s : TSegment) (p : TPoint) : onWI s p = onW s p := by
  unfold onWI onW
  cases h1 : isSeg s
  · simp
  · cases h2 : isp p.x p.y
    · simp
    · have h3 := h1
      unfold isSeg at h3
      simp only [Bool.and_eq_true] at h3
      rw [sdW_zero h3.1.1 h3.1.2 h2]
      rfl
theorem bef_cases (a b : TPoint) : decide (a.y < b.y) = true ∨ (decide (a.y < b.y) = false ∧ (a.y == b.y) = false) ∨ (decide (a.y < b.y) = false ∧ (a.y == b.y) = true) := by
  cases decide (a.y < b.y) <;> cases (a.y == b.y) <;> simp
def fwdW (s : TSegment) : TSegment := if bef s.b s.a = true then ⟨s.b, s.a⟩ else s

theorem min_s (a b : Int) : VCalls Tryz.prog 175 [I a, I b] (fun r M => r = I (wmin a b) ∧ M = []) := by
  refine VB Tryz.func175 8 (fun E hE => ?_)
  repeat' ((first
    | (refine iAL ?_; first | refine AL.any ?_ | refine AL.nil ?_)
    | (refine iAW ?_; first | (refine AW.c0 ?_; constructor) | refine AW.cT ?_ | refine AW.cF ?_ | (refine AW.c2 ?_ ?_ <;> (intro h; try simp only [bT, bF] at h)))) <;> (try dsimp only))
  all_goals exact Fin.one rfl (RV.tmp (by rfl)) (clo_c _) ⟨by first | rfl | (simp_all [wmin]; done) | (simp only [wmin]; (repeat' split) <;> simp_all <;> omega), rfl⟩

theorem isNaN_v (n : Int) : VCalls Tryz.prog 198 [I n] (fun r M => r = B false ∧ M = []) := by
  refine VB Tryz.func198 5 (fun E hE => ?_)
  repeat' ((first
    | (refine iAL ?_; first | refine AL.any ?_ | refine AL.nil ?_)
    | (refine iAW ?_; first | (refine AW.c0 ?_; constructor))) <;> (try dsimp only))
  all_goals exact Fin.one rfl (RV.tmp (by rfl)) (clo_c _) ⟨by simp, rfl⟩

theorem cmp_v (x y : Int) : VCalls Tryz.prog 128 [I x, I y] (fun r M => r = I (cmpI x y) ∧ M = []) := by
  refine VB Tryz.func128 18 (fun E hE => ?_)
  repeat' ((first
    | (refine iAL ?_; first | refine AL.any ?_ | refine AL.any (h := POp.k Tryz.func198 (hc := isNaN_v _)) ?_ | refine AL.nil ?_)
    | (refine iAW ?_; first | (refine AW.c0 ?_; constructor) | refine AW.cT ?_ | refine AW.cF ?_ | (refine AW.c2 ?_ ?_ <;> (intro h; try simp only [bT, bF] at h)))) <;> (try dsimp only))
  all_goals exact Fin.one rfl (RV.tmp (by rfl)) (clo_c _) ⟨by first | rfl | (simp_all [cmpI]; done) | (simp only [cmpI]; (repeat' split) <;> simp_all <;> omega), rfl⟩

theorem crs_s (a b p : TPoint) : VCalls Tryz.prog 294 [.agg a.en, .agg b.en, .agg p.en] (fun r M => r = I (crW a b p) ∧ M = []) := by
  refine VB Tryz.func294 27 (fun E hE => ?_)
  dsimp only [TPoint.en, TSegment.en]
  repeat' ((first
    | (refine iAL ?_; first | refine AL.any ?_ | refine AL.nil ?_)
    | (refine iAW ?_; first | (refine AW.c0 ?_; constructor))) <;> (try dsimp only))
  all_goals exact Fin.one rfl (RV.tmp (by rfl)) (clo_c _) ⟨by first | rfl | (simp_all [crW]; done) | (simp only [crW]; (repeat' split) <;> simp_all <;> omega), rfl⟩

theorem isSeg_s (s : TSegment) : VCalls Tryz.prog 240 [.agg s.en] (fun r M => r = B (isSeg s) ∧ M = []) := by
  refine VB Tryz.func240 17 (fun E hE => ?_)
  dsimp only [TPoint.en, TSegment.en]
  repeat' ((first
    | (refine iAL ?_; first | refine AL.any ?_ | refine AL.any (h := POp.k Tryz.func170 (hc := by first | exact isp_s_t _ _ (by assumption) | exact isp_s_f _ _ (by assumption) | exact isp_s _ _)) ?_ | refine AL.U ?_ | refine AL.F ?_ | refine AL.T ?_ | refine AL.T (h := POp.k Tryz.func170 (hc := by first | exact isp_s_t _ _ (by assumption) | exact isp_s_f _ _ (by assumption) | exact isp_s _ _)) ?_ | refine AL.W ?_ | refine AL.W (h := fun h => by (try rw [h]); exact POp.k Tryz.func170 (hc := by first | exact isp_s_t _ _ (by assumption) | exact isp_s_f _ _ (by assumption) | exact isp_s _ _)) ?_ | refine AL.nil ?_)
    | (refine iAW ?_; first | (refine AW.c0 ?_; constructor))) <;> (try dsimp only))
  all_goals exact Fin.one rfl (RV.tmp (by rfl)) (clo_c _) ⟨by first | rfl | (simp_all [isSeg]; done) | (simp only [isSeg]; (repeat' split) <;> simp_all <;> omega), rfl⟩

theorem side_s (a b p : TPoint) : VCalls Tryz.prog 244 [.agg a.en, .agg b.en, .agg p.en] (fun r M => r = I (sdW a b p) ∧ M = []) := by
  refine VB Tryz.func244 28 (fun E hE => ?_)
  dsimp only [TPoint.en, TSegment.en]
  repeat' ((first
    | (refine iAL ?_; first | refine AL.any ?_ | refine AL.any (h := POp.k Tryz.func170 (hc := by first | exact isp_s_t _ _ (by assumption) | exact isp_s_f _ _ (by assumption) | exact isp_s _ _)) ?_ | refine AL.any (h := POp.k Tryz.func294 (hc := by first | exact crs_s a b p | exact crs_s s.a s.b p)) ?_ | refine AL.U ?_ | refine AL.F ?_ | refine AL.T ?_ | refine AL.T (h := POp.k Tryz.func170 (hc := by first | exact isp_s_t _ _ (by assumption) | exact isp_s_f _ _ (by assumption) | exact isp_s _ _)) ?_ | refine AL.W ?_ | refine AL.W (h := fun h => by (try rw [h]); exact POp.k Tryz.func170 (hc := by first | exact isp_s_t _ _ (by assumption) | exact isp_s_f _ _ (by assumption) | exact isp_s _ _)) ?_ | refine AL.nil ?_)
    | (refine iAW ?_; first | (refine AW.c0 ?_; constructor) | refine AW.cT ?_ | refine AW.cF ?_ | (refine AW.c2 ?_ ?_ <;> (intro h; try simp only [bT, bF] at h)))) <;> (try dsimp only))
  all_goals exact Fin.one rfl (RV.tmp (by rfl)) (clo_c _) ⟨by first | rfl | (simp_all [sdW, sg, cmpI]; done) | (simp only [sdW, sg, cmpI]; (repeat' split) <;> simp_all <;> omega), rfl⟩

theorem isOn_s (s : TSegment) (p : TPoint) : VCalls Tryz.prog 320 [.agg s.en, .agg p.en] (fun r M => r = B (onW s p) ∧ M = []) := by
  refine VB Tryz.func320 56 (fun E hE => ?_)
  dsimp only [TPoint.en, TSegment.en]
  repeat' ((first
    | (refine iAL ?_; first | refine AL.any ?_ | refine AL.U ?_ | refine AL.F ?_ | refine AL.T ?_ | refine AL.T (h := POp.k Tryz.func96 (hc := inr_s _ _ _)) ?_ | refine AL.W ?_ | refine AL.W (h := fun h => by (try rw [h]); exact POp.k Tryz.func96 (hc := inr_s _ _ _)) ?_ | refine AL.nil ?_)
    | ((with_reducible show DL ..); first | refine DL.any ?_ | refine DL.any (h := POp.k Tryz.func240 (hc := isSeg_s s)) ?_ | refine DL.U ?_ | refine DL.F ?_ | refine DL.T ?_ | refine DL.T (h := POp.k Tryz.func96 (hc := inr_s _ _ _)) ?_ | refine DL.T (h := POp.k Tryz.func170 (hc := by first | exact isp_s_t _ _ (by assumption) | exact isp_s_f _ _ (by assumption) | exact isp_s _ _)) ?_ | refine DL.T (h := POp.k Tryz.func175 (hc := min_s _ _)) ?_ | refine DL.T (h := POp.k Tryz.func222 (hc := max_s _ _)) ?_ | refine DL.T (h := POp.k Tryz.func294 (hc := by first | exact crs_s a b p | exact crs_s s.a s.b p)) ?_ | refine DL.W ?_ | refine DL.W (h := fun h => by (try rw [h]); exact POp.k Tryz.func96 (hc := inr_s _ _ _)) ?_ | refine DL.W (h := fun h => by (try rw [h]); exact POp.k Tryz.func170 (hc := by first | exact isp_s_t _ _ (by assumption) | exact isp_s_f _ _ (by assumption) | exact isp_s _ _)) ?_ | refine DL.W (h := fun h => by (try rw [h]); exact POp.k Tryz.func175 (hc := min_s _ _)) ?_ | refine DL.W (h := fun h => by (try rw [h]); exact POp.k Tryz.func222 (hc := max_s _ _)) ?_ | refine DL.W (h := fun h => by (try rw [h]); exact POp.k Tryz.func294 (hc := by first | exact crs_s a b p | exact crs_s s.a s.b p)) ?_ | refine DL.nil ?_)
    | (refine iAW ?_; first | (refine AW.c0 ?_; constructor) | refine AW.dr (id := 1) 51 ?_)) <;> (try dsimp only))
  all_goals exact Fin.one rfl (RV.tmp (by rfl)) (clo_c _) ⟨by first | rfl | (simp_all [onW, wmin, wmax]; done) | (simp only [onW, wmin, wmax]; (repeat' split) <;> simp_all <;> omega), rfl⟩

theorem crs_i (a b p : TPoint) : VCalls Tryz.prog 298 [.agg a.en, .agg b.en, .agg p.en] (fun r M => r = I (crW a b p) ∧ M = []) := by
  refine VB Tryz.func298 27 (fun E hE => ?_)
  dsimp only [TPoint.en, TSegment.en]
  repeat' ((first
    | (refine iAL ?_; first | refine AL.any ?_ | refine AL.nil ?_)
    | (refine iAW ?_; first | (refine AW.c0 ?_; constructor))) <;> (try dsimp only))
  all_goals exact Fin.one rfl (RV.tmp (by rfl)) (clo_c _) ⟨by first | rfl | (simp_all [crW]; done) | (simp only [crW]; (repeat' split) <;> simp_all <;> omega), rfl⟩

theorem isSeg_i (s : TSegment) : VCalls Tryz.prog 249 [.agg s.en] (fun r M => r = B (isSeg s) ∧ M = []) := by
  refine VB Tryz.func249 17 (fun E hE => ?_)
  dsimp only [TPoint.en, TSegment.en]
  repeat' ((first
    | (refine iAL ?_; first | refine AL.any ?_ | refine AL.any (h := POp.k Tryz.func180 (hc := by first | exact isp_v_t _ _ (by assumption) | exact isp_v_f _ _ (by assumption) | exact isp_v _ _)) ?_ | refine AL.U ?_ | refine AL.F ?_ | refine AL.T ?_ | refine AL.T (h := POp.k Tryz.func180 (hc := by first | exact isp_v_t _ _ (by assumption) | exact isp_v_f _ _ (by assumption) | exact isp_v _ _)) ?_ | refine AL.W ?_ | refine AL.W (h := fun h => by (try rw [h]); exact POp.k Tryz.func180 (hc := by first | exact isp_v_t _ _ (by assumption) | exact isp_v_f _ _ (by assumption) | exact isp_v _ _)) ?_ | refine AL.nil ?_)
    | (refine iAW ?_; first | (refine AW.c0 ?_; constructor))) <;> (try dsimp only))
  all_goals exact Fin.one rfl (RV.tmp (by rfl)) (clo_c _) ⟨by first | rfl | (simp_all [isSeg]; done) | (simp only [isSeg]; (repeat' split) <;> simp_all <;> omega), rfl⟩

theorem side_i (a b p : TPoint) : VCalls Tryz.prog 254 [.agg a.en, .agg b.en, .agg p.en] (fun r M => r = I (sdW a b p) ∧ M = []) := by
  refine VB Tryz.func254 22 (fun E hE => ?_)
  dsimp only [TPoint.en, TSegment.en]
  repeat' ((first
    | (refine iAL ?_; first | refine AL.any ?_ | refine AL.any (h := POp.k Tryz.func128 (hc := cmp_v _ _)) ?_ | refine AL.any (h := POp.k Tryz.func180 (hc := by first | exact isp_v_t _ _ (by assumption) | exact isp_v_f _ _ (by assumption) | exact isp_v _ _)) ?_ | refine AL.any (h := POp.k Tryz.func298 (hc := by first | exact crs_i a b p | exact crs_i s.a s.b p)) ?_ | refine AL.U ?_ | refine AL.F ?_ | refine AL.T ?_ | refine AL.T (h := POp.k Tryz.func180 (hc := by first | exact isp_v_t _ _ (by assumption) | exact isp_v_f _ _ (by assumption) | exact isp_v _ _)) ?_ | refine AL.W ?_ | refine AL.W (h := fun h => by (try rw [h]); exact POp.k Tryz.func180 (hc := by first | exact isp_v_t _ _ (by assumption) | exact isp_v_f _ _ (by assumption) | exact isp_v _ _)) ?_ | refine AL.nil ?_)
    | (refine iAW ?_; first | (refine AW.c0 ?_; constructor) | refine AW.cT ?_ | refine AW.cF ?_ | (refine AW.c2 ?_ ?_ <;> (intro h; try simp only [bT, bF] at h)))) <;> (try dsimp only))
  all_goals exact Fin.one rfl (RV.tmp (by rfl)) (clo_c _) ⟨by first | rfl | (simp_all [sdW, sg, cmpI]; done) | (simp only [sdW, sg, cmpI]; (repeat' split) <;> simp_all <;> omega), rfl⟩

theorem isOn_i0 (s : TSegment) (p : TPoint) : VCalls Tryz.prog 297 [.agg s.en, .agg p.en] (fun r M => r = B (onWI s p) ∧ M = []) := by
  refine VB Tryz.func297 56 (fun E hE => ?_)
  dsimp only [TPoint.en, TSegment.en]
  repeat' ((first
    | (refine iAL ?_; first | refine AL.any ?_ | refine AL.any (h := POp.k Tryz.func249 (hc := isSeg_i s)) ?_ | refine AL.U ?_ | refine AL.F ?_ | refine AL.T ?_ | refine AL.T (h := POp.k Tryz.func145 (hc := inr_v _ _ _)) ?_ | refine AL.T (h := POp.k Tryz.func180 (hc := by first | exact isp_v_t _ _ (by assumption) | exact isp_v_f _ _ (by assumption) | exact isp_v _ _)) ?_ | refine AL.T (h := POp.k Tryz.func254 (hc := by first | exact side_i a b p | exact side_i s.a s.b p)) ?_ | refine AL.W ?_ | refine AL.W (h := fun h => by (try rw [h]); exact POp.k Tryz.func145 (hc := inr_v _ _ _)) ?_ | refine AL.W (h := fun h => by (try rw [h]); exact POp.k Tryz.func180 (hc := by first | exact isp_v_t _ _ (by assumption) | exact isp_v_f _ _ (by assumption) | exact isp_v _ _)) ?_ | refine AL.W (h := fun h => by (try rw [h]); exact POp.k Tryz.func254 (hc := by first | exact side_i a b p | exact side_i s.a s.b p)) ?_ | refine AL.nil ?_)
    | (refine iAW ?_; first | (refine AW.c0 ?_; constructor))) <;> (try dsimp only))
  all_goals exact Fin.one rfl (RV.tmp (by rfl)) (clo_c _) ⟨by first | rfl | (simp only [onWI, Bool.and_assoc]; done), rfl⟩

theorem isOn_i (s : TSegment) (p : TPoint) : VCalls Tryz.prog 297 [.agg s.en, .agg p.en] (fun r M => r = B (onW s p) ∧ M = []) := onWI_eq s p ▸ isOn_i0 s p
theorem bef_i (a b : TPoint) : VCalls Tryz.prog 296 [.agg a.en, .agg b.en] (fun r M => r = B (bef a b) ∧ M = []) := by
  refine VB Tryz.func296 22 (fun E hE => ?_)
  dsimp only [TPoint.en, TSegment.en]
  rcases bef_cases a b with h1 | ⟨h1, h2⟩ | ⟨h1, h2⟩
  repeat' ((first
    | (refine iAL ?_; first | refine AL.any ?_ | refine AL.U ?_ | refine AL.F ?_ | refine AL.T ?_ | refine AL.W ?_ | refine AL.nil ?_)
    | (refine iAW ?_; first | (refine AW.c0 ?_; constructor))) <;> (try dsimp only))
  all_goals exact Fin.one rfl (RV.tmp (by rfl)) (clo_c _) ⟨by first | rfl | (simp_all [bef]; done) | (simp only [bef]; (repeat' split) <;> simp_all <;> omega), rfl⟩

theorem turn_i (s : TSegment) : VCalls Tryz.prog 324 [.agg s.en] (fun r M => r = .agg [I s.b.x, I s.b.y, I s.a.x, I s.a.y] ∧ M = []) := by
  refine VB Tryz.func324 7 (fun E hE => ?_)
  dsimp only [TPoint.en, TSegment.en]
  repeat' ((first
    | (refine iAL ?_; first | refine AL.any ?_ | refine AL.nil ?_)
    | (refine iAW ?_; first | (refine AW.c0 ?_; constructor))) <;> (try dsimp only))
  all_goals exact Fin.one rfl (RV.cell (QOp.quietA TT_ok (by rfl))) (clo_of (by rfl)) ⟨by rfl, rfl⟩

theorem fwd_i (s : TSegment) : VCalls Tryz.prog 295 [.agg s.en] (fun r M => r = .agg (fwdW s).en ∧ M = []) := by
  refine VB Tryz.func295 10 (fun E hE => ?_)
  dsimp only [TPoint.en, TSegment.en]
  repeat' ((first
    | (refine iAL ?_; first | refine AL.any ?_ | refine AL.any (h := POp.k Tryz.func296 (hc := by first | exact bef_i a b | exact bef_i s.b s.a)) ?_ | refine AL.any (h := POp.k Tryz.func324 (hc := turn_i s)) ?_ | refine AL.nil ?_)
    | (refine iAW ?_; first | (refine AW.c0 ?_; constructor) | refine AW.cT ?_ | refine AW.cF ?_ | (refine AW.c2 ?_ ?_ <;> (intro h; try simp only [bT, bF] at h)))) <;> (try dsimp only))
  all_goals exact Fin.one rfl (RV.cell (QOp.quietA TT_ok (by rfl))) (clo_of (by rfl)) ⟨by first | (simp only [fwdW]; simp_all; done) | (simp [fwdW, *]; done), rfl⟩

def hmI (s t : TSegment) : Int :=
  if (!isSeg s || !isSeg t) = true then 0 else
  if ((sdW s.a s.b t.a == 0) && (sdW s.a s.b t.b == 0)) = true then
    if bef (if bef (fwdW t).b (fwdW s).b = true then (fwdW t).b else (fwdW s).b) (if bef (fwdW s).a (fwdW t).a = true then (fwdW t).a else (fwdW s).a) = true then 0
    else if ptE (if bef (fwdW s).a (fwdW t).a = true then (fwdW t).a else (fwdW s).a) (if bef (fwdW t).b (fwdW s).b = true then (fwdW t).b else (fwdW s).b) = true then 1 else 3
  else if (decide (wmul (sdW s.a s.b t.a) (sdW s.a s.b t.b) < 0) && decide (wmul (sdW t.a t.b s.a) (sdW t.a t.b s.b) < 0)) = true then 2
  else if (onW s t.a || onW s t.b || onW t s.a || onW t s.b) = true then 1 else 0
theorem mul_small {u v : Int} (h1 : -200 ≤ u ∧ u ≤ 200) (h2 : -200 ≤ v ∧ v ≤ 200) : -40000 ≤ u * v ∧ u * v ≤ 40000 := by
  have a1 := Int.mul_nonneg (show 0 ≤ 200 - u by omega) (show 0 ≤ 200 + v by omega)
  have a2 := Int.mul_nonneg (show 0 ≤ 200 + u by omega) (show 0 ≤ 200 - v by omega)
  have a3 := Int.mul_nonneg (show 0 ≤ 200 - u by omega) (show 0 ≤ 200 - v by omega)
  have a4 := Int.mul_nonneg (show 0 ≤ 200 + u by omega) (show 0 ≤ 200 + v by omega)
  have e1 : (200 - u) * (200 + v) + (200 + u) * (200 - v) = 80000 - 2 * (u * v) := by grind
  have e2 : (200 - u) * (200 - v) + (200 + u) * (200 + v) = 80000 + 2 * (u * v) := by grind
  omega
theorem isp_bd {x y : Int} (h : isp x y = true) : 0 ≤ x ∧ x ≤ 200 ∧ 0 ≤ y ∧ y ≤ 200 := by
  simp only [isp, inr, Bool.and_eq_true, decide_eq_true_eq] at h
  omega
theorem crW_crs {a b p : TPoint} (ha : isp a.x a.y = true) (hb : isp b.x b.y = true) (hp : isp p.x p.y = true) : crW a b p = crs a b p := by
  have ha := isp_bd ha
  have hb := isp_bd hb
  have hp := isp_bd hp
  have m1 := mul_small (u := b.x - a.x) (v := p.y - a.y) (by omega) (by omega)
  have m2 := mul_small (u := b.y - a.y) (v := p.x - a.x) (by omega) (by omega)
  unfold crW crs wmul wsub
  rw [w64 (n := b.x - a.x) (by omega) (by omega), w64 (n := p.y - a.y) (by omega) (by omega), w64 (n := b.y - a.y) (by omega) (by omega), w64 (n := p.x - a.x) (by omega) (by omega)]
  rw [w64 (n := (b.x - a.x) * (p.y - a.y)) (by omega) (by omega), w64 (n := (b.y - a.y) * (p.x - a.x)) (by omega) (by omega), w64 (by omega) (by omega)]
theorem sdW_sg {a b p : TPoint} (ha : isp a.x a.y = true) (hb : isp b.x b.y = true) (hp : isp p.x p.y = true) : sdW a b p = sg (crs a b p) := by
  unfold sdW
  rw [ha, hb, hp, crW_crs ha hb hp]
  rfl
theorem sg_bd (n : Int) : -1 ≤ sg n ∧ sg n ≤ 1 := by unfold sg; split <;> (try split) <;> omega
theorem wmul_sg (m n : Int) : wmul (sg m) (sg n) = sg m * sg n := by
  have h1 := sg_bd m
  have h2 := sg_bd n
  have := mul_small (u := sg m) (v := sg n) (by omega) (by omega)
  exact w64 (by omega) (by omega)
theorem isSeg_bd {s : TSegment} (h : isSeg s = true) : isp s.a.x s.a.y = true ∧ isp s.b.x s.b.y = true ∧ ptE s.a s.b = false := by
  simp only [isSeg, Bool.and_eq_true, Bool.not_eq_true'] at h
  exact ⟨h.1.1, h.1.2, h.2⟩
theorem ptE_eqP (a b : TPoint) : ptE a b = eqP a b := by
  rw [Bool.eq_iff_iff]
  simp [ptE, eqVs, eqV, eqP]
theorem isSeg_ne {s : TSegment} (h : isSeg s = true) : s.a ≠ s.b := fun e => by
  have := (isSeg_bd h).2.2
  rw [ptE_eqP, e] at this
  simp [eqP] at this
theorem inr_btw (a b p : Int) : inr p (wmin a b) (wmax a b) = btwB a b p := by
  rw [Bool.eq_iff_iff]
  unfold inr wmin wmax btwB
  simp only [Bool.and_eq_true, Bool.or_eq_true, decide_eq_true_eq]
  split <;> split <;> omega
theorem onW_onB {s : TSegment} {p : TPoint} (hs : isSeg s = true) (hp : isp p.x p.y = true) : onW s p = onB s.a s.b p := by
  unfold onW onB
  rw [hs, hp, crW_crs (isSeg_bd hs).1 (isSeg_bd hs).2.1 hp, inr_btw, inr_btw]
  rfl
theorem fwdW_ends (s : TSegment) : (fwdW s).a = lowE s.a s.b ∧ (fwdW s).b = highE s.a s.b := by
  unfold fwdW lowE highE
  split <;> exact ⟨rfl, rfl⟩
theorem hmI_eq {s t : TSegment} (hs : isSeg s = true) (ht : isSeg t = true) : hmI s t = meetI s.a s.b t.a t.b := by
  obtain ⟨h1, h2, h3⟩ := isSeg_bd hs
  obtain ⟨g1, g2, g3⟩ := isSeg_bd ht
  unfold hmI meetI crossB
  rw [hs, ht]
  rw [onW_onB hs g1, onW_onB hs g2, onW_onB ht h1, onW_onB ht h2]
  rw [sdW_sg h1 h2 g1, sdW_sg h1 h2 g2, sdW_sg g1 g2 h1, sdW_sg g1 g2 h2, wmul_sg, wmul_sg]
  rw [(fwdW_ends s).1, (fwdW_ends s).2, (fwdW_ends t).1, (fwdW_ends t).2, ptE_eqP]
  simp only [Bool.not_true, Bool.or_self, Bool.false_eq_true, if_false, Bool.and_eq_true, beq_iff_eq]
def endsL (s t : TSegment) : List TPoint := [s.a, s.b, t.a, t.b]
def endE (s t : TSegment) (i : Nat) : TPoint := (endsL s t).getD i ⟨0, 0⟩
def onE (s t : TSegment) (i : Nat) : Bool := if i < 2 then onW t (endE s t i) else onW s (endE s t i)
def addW (on : Bool) (e : TPoint) (l : List TPoint) : List TPoint := if (on && l.all fun q => !ptE q e) = true then l ++ [e] else l
def shK (s t : TSegment) : Nat → List TPoint
  | 0 => []
  | i + 1 => addW (onE s t i) (endE s t i) (shK s t i)
theorem shK_succ (s t : TSegment) (i : Nat) : shK s t (i + 1) = addW (onE s t i) (endE s t i) (shK s t i) := rfl
theorem shK_len (s t : TSegment) (i : Nat) : (shK s t i).length ≤ i := by
  induction i with
  | zero => simp [shK]
  | succ i ih =>
    rw [shK_succ]
    unfold addW
    split
    · simp; omega
    · omega
def onK (s t : TSegment) (i k : Nat) : Bool := onE s t i && ((shK s t i).take k).all fun q => !ptE q (endE s t i)
theorem onK_zero (s t : TSegment) (i : Nat) : onK s t i 0 = onE s t i := by simp [onK]
theorem onK_succ {s t : TSegment} {i k : Nat} {q : TPoint} (h : (shK s t i)[k]? = some q) : onK s t i (k + 1) = (onK s t i k && !ptE q (endE s t i)) := by
  unfold onK
  rw [take_succ_of h, List.all_append, Bool.and_assoc]
  simp
theorem sh_add {s t : TSegment} {i : Nat} (h : onK s t i (shK s t i).length = true) : (shK s t (i + 1)).map TPoint.en = (shK s t i).map TPoint.en ++ [(endE s t i).en] ∧ (shK s t (i + 1)).length = (shK s t i).length + 1 := by
  unfold onK at h
  rw [List.take_length] at h
  rw [shK_succ, addW, if_pos h]
  simp
theorem sh_not {s t : TSegment} {i : Nat} (h : onK s t i (shK s t i).length = false) : (shK s t (i + 1)).map TPoint.en = (shK s t i).map TPoint.en ∧ (shK s t (i + 1)).length = (shK s t i).length := by
  unfold onK at h
  rw [List.take_length] at h
  rw [shK_succ, addW, if_neg (by rw [h]; simp)]
  simp
theorem end_get {s t : TSegment} {i : Nat} (h : i < 4) : ((endsL s t).map TPoint.en)[((i : Int)).toNat]? = some (endE s t i).en := by
  refine map_get ?_
  rw [endE, List.getD_eq_getElem?_getD, List.getElem?_eq_getElem (show i < (endsL s t).length from h)]
  rfl
theorem fitsM_cons {n : Nat} {b : Blk} {M : Mem} (h : ∀ r ∈ b.es, ∀ y ∈ r, Clo y) (hm : FitsM n M) : FitsM n (some b :: M) := fun b' hb r hr x hx => by
  rcases List.mem_cons.1 hb with e | hb
  · cases e; exact Fits.clo (h r hr x hx)
  · exact hm b' hb r hr x hx
theorem clo_one {l : List AV} (h : ∀ x ∈ l, Clo x) : ∀ r ∈ [l], ∀ x ∈ r, Clo x := fun r hr => by
  rw [List.mem_singleton.1 hr]
  exact h
def apW (s t : TSegment) : Bool := decide (wmax s.a.x s.b.x < wmin t.a.x t.b.x) || decide (wmax t.a.x t.b.x < wmin s.a.x s.b.x) || decide (wmax s.a.y s.b.y < wmin t.a.y t.b.y) || decide (wmax t.a.y t.b.y < wmin s.a.y s.b.y)
def hmS (s t : TSegment) : Int :=
  if (!isSeg s || !isSeg t) = true then 0 else if apW s t = true then 0 else
  if (((shK s t 4).length : Int) == 0) = true then (if (decide (wmul (sdW s.a s.b t.a) (sdW s.a s.b t.b) < 0) && decide (wmul (sdW t.a t.b s.a) (sdW t.a t.b s.b) < 0)) = true then 2 else 0)
  else if (((shK s t 4).length : Int) == 1) = true then 1 else 3
theorem addW_addE (on : Bool) (e : TPoint) (l : List TPoint) : addW on e l = addE on e l := by
  unfold addW addE
  simp only [ptE_eqP]
theorem shK_shrd {s t : TSegment} (hs : isSeg s = true) (ht : isSeg t = true) : shK s t 4 = shrd s.a s.b t.a t.b := by
  obtain ⟨h1, h2, h3⟩ := isSeg_bd hs
  obtain ⟨g1, g2, g3⟩ := isSeg_bd ht
  unfold shrd
  rw [shK_succ, shK_succ, shK_succ, shK_succ]
  simp only [addW_addE, onE, endE, endsL, List.getD_cons_zero, List.getD_cons_succ, shK]
  rw [onW_onB hs g1, onW_onB hs g2, onW_onB ht h1, onW_onB ht h2]
  simp
theorem apW_apart {s t : TSegment} (h : apW s t = true) : apart s.a s.b t.a t.b := by
  unfold apW wmin wmax at h
  simp only [Bool.or_eq_true, decide_eq_true_eq] at h
  unfold apart
  rcases h with ((h | h) | h) | h
  · left; split at h <;> split at h <;> omega
  · right; left; split at h <;> split at h <;> omega
  · right; right; left; split at h <;> split at h <;> omega
  · right; right; right; split at h <;> split at h <;> omega
theorem hmS_eq (s t : TSegment) : hmS s t = hmI s t := by
  cases hs : isSeg s
  · simp [hmS, hmI, hs]
  · cases ht : isSeg t
    · simp [hmS, hmI, ht]
    · rw [hmI_eq hs ht]
      cases ha : apW s t
      · rw [← meet_eq (isSeg_ne hs) (isSeg_ne ht)]
        obtain ⟨h1, h2, h3⟩ := isSeg_bd hs
        obtain ⟨g1, g2, g3⟩ := isSeg_bd ht
        have e0 : ∀ n : Nat, ((n : Int) == 0) = decide (n = 0) := fun n => by rw [Bool.eq_iff_iff]; simp
        have e1 : ∀ n : Nat, ((n : Int) == 1) = decide (n = 1) := fun n => by rw [Bool.eq_iff_iff]; simp; omega
        unfold hmS meetS crossB
        simp only [e0, e1, decide_eq_true_eq]
        rw [hs, ht, ha, shK_shrd hs ht, sdW_sg h1 h2 g1, sdW_sg h1 h2 g2, sdW_sg g1 g2 h1, sdW_sg g1 g2 h2, wmul_sg, wmul_sg]
        rfl
      · rw [meet_eq_boxes (isSeg_ne hs) (isSeg_ne ht) (apW_apart ha)]
        simp [hmS, hs, ht, ha]

def arnd (l : List TPoint) : List TSegment := List.zipWith TSegment.mk l (l.tail ++ l.take 1)
theorem arnd_len (l : List TPoint) : (arnd l).length = l.length := by
  cases l
  · simp [arnd]
  · simp [arnd]
theorem arnd_get {l : List TPoint} {i : Nat} (h : i < l.length) : ∃ a b, l[i]? = some a ∧ l[(i + 1) % l.length]? = some b ∧ (arnd l)[i]? = some ⟨a, b⟩ := by
  refine ⟨l[i], l[(i + 1) % l.length]'(Nat.mod_lt _ (by omega)), List.getElem?_eq_getElem _, List.getElem?_eq_getElem _, ?_⟩
  unfold arnd
  rw [List.getElem?_zipWith]
  by_cases h1 : i + 1 < l.length
  · have e : (i + 1) % l.length = i + 1 := Nat.mod_eq_of_lt h1
    rw [List.getElem?_append_left (by simp; omega), List.getElem?_tail]
    simp [e, List.getElem?_eq_getElem h, List.getElem?_eq_getElem h1]
  · have e : (i + 1) % l.length = 0 := by rw [show i + 1 = l.length by omega, Nat.mod_self]
    rw [List.getElem?_append_right (by simp; omega)]
    have e2 : i - l.tail.length = 0 := by simp; omega
    rw [e2]
    simp [e, List.getElem?_eq_getElem h, List.getElem?_take, List.getElem?_eq_getElem (show 0 < l.length by omega)]
def wantN (n i k : Nat) : Int := if k + 1 = i ∨ (k = 0 ∧ i + 1 = n) then 1 else 0
theorem arnd_ix {l : List TPoint} {i : Nat} (h : i < l.length) (hl : l.length ≤ 1048576) : (IntKind.i64.wrap ((i : Int) + 1)).tmod ((l.map TPoint.en).length : Int) = (((i + 1) % l.length : Nat) : Int) := by
  rw [w64 (by omega) (by omega), List.length_map, show (i : Int) + 1 = ((i + 1 : Nat) : Int) by omega]
  exact (Int.ofNat_tmod _ _).symm
theorem want_s {n i k : Nat} (hi : i < n) (hk : k < i) (hn : n ≤ 1048576) :
    ((IntKind.i64.wrap ((k : Int) + 1) == (i : Int)) = true ∧ wantN n i k = 1) ∨
    ((IntKind.i64.wrap ((k : Int) + 1) == (i : Int)) = false ∧ ((k : Int) == 0) = false ∧ wantN n i k = 0) ∨
    ((IntKind.i64.wrap ((k : Int) + 1) == (i : Int)) = false ∧ ((k : Int) == 0) = true ∧ (IntKind.i64.wrap ((i : Int) + 1) == (n : Int)) = true ∧ wantN n i k = 1) ∨
    ((IntKind.i64.wrap ((k : Int) + 1) == (i : Int)) = false ∧ ((k : Int) == 0) = true ∧ (IntKind.i64.wrap ((i : Int) + 1) == (n : Int)) = false ∧ wantN n i k = 0) := by
  rw [w64 (n := (k : Int) + 1) (by omega) (by omega), w64 (n := (i : Int) + 1) (by omega) (by omega)]
  unfold wantN
  simp only [beq_iff_eq, beq_eq_false_iff_ne, ne_eq]
  by_cases q1 : k + 1 = i
  · exact .inl ⟨by omega, by simp [q1]⟩
  · by_cases q2 : k = 0
    · by_cases q3 : i + 1 = n
      · exact .inr (.inr (.inl ⟨by omega, by omega, by omega, by simp [q2, q3]⟩))
      · exact .inr (.inr (.inr ⟨by omega, by omega, by omega, by simp [q1, q2, q3] <;> omega⟩))
    · exact .inr (.inl ⟨by omega, by omega, by simp [q1, q2]⟩)
theorem want_i {n i k : Nat} (hi : i < n) (hk : k < i) (hn : n ≤ 1048576) :
    (((k : Int) == IntKind.i64.wrap ((i : Int) - 1)) = true ∧ wantN n i k = 1) ∨
    (((k : Int) == IntKind.i64.wrap ((i : Int) - 1)) = false ∧ ((k : Int) == 0) = false ∧ wantN n i k = 0) ∨
    (((k : Int) == IntKind.i64.wrap ((i : Int) - 1)) = false ∧ ((k : Int) == 0) = true ∧ ((i : Int) == IntKind.i64.wrap ((n : Int) - 1)) = true ∧ wantN n i k = 1) ∨
    (((k : Int) == IntKind.i64.wrap ((i : Int) - 1)) = false ∧ ((k : Int) == 0) = true ∧ ((i : Int) == IntKind.i64.wrap ((n : Int) - 1)) = false ∧ wantN n i k = 0) := by
  have e1 : ((k : Int) == IntKind.i64.wrap ((i : Int) - 1)) = (IntKind.i64.wrap ((k : Int) + 1) == (i : Int)) := by
    rw [w64 (n := (k : Int) + 1) (by omega) (by omega), w64 (n := (i : Int) - 1) (by omega) (by omega), Bool.eq_iff_iff]
    simp only [beq_iff_eq]
    omega
  have e2 : ((i : Int) == IntKind.i64.wrap ((n : Int) - 1)) = (IntKind.i64.wrap ((i : Int) + 1) == (n : Int)) := by
    rw [w64 (n := (i : Int) + 1) (by omega) (by omega), w64 (n := (n : Int) - 1) (by omega) (by omega), Bool.eq_iff_iff]
    simp only [beq_iff_eq]
    omega
  rw [e1, e2]
  exact want_s hi hk hn
def sAt (l : List TPoint) (i : Nat) : TSegment := (arnd l).getD i ⟨⟨0, 0⟩, ⟨0, 0⟩⟩
theorem sAt_of {l : List TPoint} {i : Nat} {x : TSegment} (h : (arnd l)[i]? = some x) : sAt l i = x := by simp [sAt, List.getD_eq_getElem?_getD, h]
def rgIn (l : List TPoint) (i n : Nat) : Bool := (List.range n).all fun k => hmI (sAt l i) (sAt l k) == wantN l.length i k
def rgAt (l : List TPoint) (i : Nat) : Bool := isSeg (sAt l i) && rgIn l i i
def rgOk (l : List TPoint) (n : Nat) : Bool := (List.range n).all (rgAt l)
theorem rgIn_succ (l : List TPoint) (i k : Nat) : rgIn l i (k + 1) = (rgIn l i k && (hmI (sAt l i) (sAt l k) == wantN l.length i k)) := by simp [rgIn, List.range_succ]
theorem rgOk_succ (l : List TPoint) (i : Nat) : rgOk l (i + 1) = (rgOk l i && rgAt l i) := by simp [rgOk, List.range_succ]
theorem rgIn_not {l : List TPoint} {i k n : Nat} (h : (hmI (sAt l i) (sAt l k) == wantN l.length i k) = false) (hk : k < n) : rgIn l i n = false := by
  simp only [rgIn, List.all_eq_false, List.mem_range]
  exact ⟨k, hk, by simp [h]⟩
theorem rgOk_not {l : List TPoint} {i n : Nat} (h : rgAt l i = false) (hi : i < n) : rgOk l n = false := by
  simp only [rgOk, List.all_eq_false, List.mem_range]
  exact ⟨i, hi, by simp [h]⟩
def isRing (l : List TPoint) : Bool := inr l.length 3 10 && rgOk l l.length
theorem isRing_len {l : List TPoint} (h : isRing l = true) : 3 ≤ l.length ∧ l.length ≤ 10 := by
  simp only [isRing, inr, Bool.and_eq_true, decide_eq_true_eq] at h
  omega
def ringSegs (l : List TPoint) : List TSegment := if isRing l then arnd l else []
theorem ringSegs_t {l : List TPoint} (h : isRing l = true) : ringSegs l = arnd l := by simp [ringSegs, h]
theorem ringSegs_f {l : List TPoint} (h : isRing l = false) : ringSegs l = [] := by simp [ringSegs, h]
theorem ringSegs_le (l : List TPoint) : (ringSegs l).length ≤ 10 := by
  unfold ringSegs
  split
  · have := isRing_len (by assumption); rw [arnd_len]; omega
  · simp
abbrev twS (n : Int) (s : TSegment) : Int := wsub (wadd n (wmul s.a.x s.b.y)) (wmul s.a.y s.b.x)
abbrev twI (n : Int) (s : TSegment) : Int := wadd n (wsub (wmul s.a.x s.b.y) (wmul s.a.y s.b.x))
theorem tw_eq (n : Int) (s : TSegment) : twI n s = twS n s := by
  unfold twI twS wadd wsub
  generalize wmul s.a.x s.b.y = p
  generalize wmul s.a.y s.b.x = q
  unfold IntKind.wrap
  simp [IntKind.bits, IntKind.signed]
  repeat' split
  all_goals omega
theorem tw_fun : twI = twS := by
  funext n s
  exact tw_eq n s
def twice (l : List TPoint) : Int := (ringSegs l).foldl twS 0
theorem arnd_s (l : List TPoint) (hl : l.length ≤ 1048576) : VCalls Tryz.prog 239 [.ro 2 (l.map TPoint.en)] (fun r M => r = .ro 4 ((arnd l).map TSegment.en) ∧ M = []) := by
  refine VB Tryz.func239 28 (fun E hE => ?_)
  have hclo : Clo (.ro 2 (l.map TPoint.en)) := clo_list TPoint.clo_en
  have hclA : Clo (.ro 4 ((arnd l).map TSegment.en)) := clo_list TSegment.clo_en
  have hal := arnd_len l
  repeat' ((first
    | (refine iAL ?_; first | refine AL.any ?_ | refine AL.nil ?_)
    | ((with_reducible show DL ..); first | refine DL.any ?_ | refine DL.nil ?_)
    | ((with_reducible show DLM ..); first | refine DLM.any ?_ | refine DLM.mk ?_ | refine DLM.nil ?_)
    | (refine iAW ?_; first | (refine AW.freezeRet (t := 2) (id := 0) rfl rfl rfl rfl (clo_rows TSegment.clo_en) ?_; (try simp only [List.take_length]); try dsimp only [dput, List.set, cond_true, cond_false, Nat.zero_add, Nat.add_zero, Nat.reduceAdd, splice, List.take, List.drop, List.length, List.nil_append, List.cons_append, List.append, TPoint.en, TSegment.en, TBox.en, TFeature.en, TMeet.en, TPlace.en, TCover.en, TLabel.en, TPiece.en, TLevel.en, TChart.en, TReason.en, TEdit.en, TEntry.en, TEdition.en, TListing.en, TAtlas.en, TEvent.en, TWindow.en]) | (refine AW.c0 ?_; constructor) | refine AW.drM (id := 5) 15 14 ?_ | refine AW.cT ?_ | refine AW.cF ?_ | (refine AW.c2 ?_ ?_ <;> (intro h; try simp only [bT, bF] at h)))
    | (refine AW.loopD hE (fun i : Nat => [.ro 2 (l.map TPoint.en), .any, .any, .own 0 i, I (i : Int), .any, .any, .any, .any, .any, .any, .any, .any, .any, .any, .any, .any, .any, .any, .any, .any, .any, .any, .any, .any, .any, .any, .any, .any]) (fun i => [some ⟨200, 4, i, false, ((arnd l).take i).map TSegment.en⟩]) (fun i => (arnd l).length - i) (fun i => i ≤ (arnd l).length) 0 (Nat.zero_le _) ?_ (by first | rfl | (simp [fil_zero]; done)) ?_
       (focus (exact wkI))
       intro i hi
       by_cases hlt : i < (arnd l).length
       case' pos =>
         have hP := True.intro
         obtain ⟨a, b, ha, hb, hs⟩ := arnd_get (l := l) (i := i) (by omega)
         have ht : decide ((i : Int) < ((l.map TPoint.en).length : Int)) = true := by simp; omega
         have hn := next_ix hlt (by omega)
         have hix := arnd_ix (l := l) (i := i) (by omega) hl
         have hz : ((l.map TPoint.en).length : Int) ≠ 0 := by rw [List.length_map]; omega
         have h0 : 0 ≤ (IntKind.i64.wrap ((i : Int) + 1)).tmod ((l.map TPoint.en).length : Int) := by rw [hix]; omega
         have hga := map_get (f := TPoint.en) ha
         have hgb : (l.map TPoint.en)[((IntKind.i64.wrap ((i : Int) + 1)).tmod ((l.map TPoint.en).length : Int)).toNat]? = some b.en := by rw [hix]; exact map_get hb
         have hm := map_take_succ (f := TSegment.en) hs
       case' neg =>
         have hQ := True.intro
         have e : i = (arnd l).length := by omega
         have ht : decide ((i : Int) < ((l.map TPoint.en).length : Int)) = false := by simp; omega
         subst e)
    | with_reducible refine ifP ?_
    | with_reducible refine ifN ?_) <;> (try dsimp only))
  all_goals first
    | (have _ := hP; (refine ⟨i + 1, _, hlt, by omega, ?_, by rw [hm] <;> rfl, ?_, ?_⟩; (focus (exact wkN)); (focus (exact fitsA)); (focus (exact fits_row (clo_rows TSegment.clo_en)))))
    | (have _ := hQ; exact Fin.one rfl (RV.tmp (by rfl)) (clo_list TSegment.clo_en) ⟨rfl, rfl⟩)

theorem arnd_i (l : List TPoint) (hl : l.length ≤ 1048576) : VCalls Tryz.prog 248 [.ro 2 (l.map TPoint.en)] (fun r M => r = .ro 4 ((arnd l).map TSegment.en) ∧ M = []) := by
  refine VB Tryz.func248 28 (fun E hE => ?_)
  have hclo : Clo (.ro 2 (l.map TPoint.en)) := clo_list TPoint.clo_en
  have hclA : Clo (.ro 4 ((arnd l).map TSegment.en)) := clo_list TSegment.clo_en
  have hal := arnd_len l
  repeat' ((first
    | (refine iAL ?_; first | refine AL.any ?_ | refine AL.nil ?_)
    | ((with_reducible show DL ..); first | refine DL.any ?_ | refine DL.nil ?_)
    | ((with_reducible show DLM ..); first | refine DLM.any ?_ | refine DLM.mk ?_ | refine DLM.nil ?_)
    | (refine iAW ?_; first | (refine AW.freezeRet (t := 2) (id := 0) rfl rfl rfl rfl (clo_rows TSegment.clo_en) ?_; (try simp only [List.take_length]); try dsimp only [dput, List.set, cond_true, cond_false, Nat.zero_add, Nat.add_zero, Nat.reduceAdd, splice, List.take, List.drop, List.length, List.nil_append, List.cons_append, List.append, TPoint.en, TSegment.en, TBox.en, TFeature.en, TMeet.en, TPlace.en, TCover.en, TLabel.en, TPiece.en, TLevel.en, TChart.en, TReason.en, TEdit.en, TEntry.en, TEdition.en, TListing.en, TAtlas.en, TEvent.en, TWindow.en]) | (refine AW.c0 ?_; constructor) | refine AW.drM (id := 5) 12 11 ?_ | refine AW.cT ?_ | refine AW.cF ?_ | (refine AW.c2 ?_ ?_ <;> (intro h; try simp only [bT, bF] at h)))
    | (refine AW.loopD hE (fun i : Nat => [.ro 2 (l.map TPoint.en), .any, .any, .own 0 i, .any, .any, .any, .ro 2 (l.map TPoint.en), I (l.map TPoint.en).length, I (i : Int), .any, .any, .any, .any, .any, .any, .any, .any, .any, .any, .any, .any, .any, .any, .any, .any, .any, .any, .any]) (fun i => [some ⟨200, 4, i, false, ((arnd l).take i).map TSegment.en⟩]) (fun i => (arnd l).length - i) (fun i => i ≤ (arnd l).length) 0 (Nat.zero_le _) ?_ (by first | rfl | (simp [fil_zero]; done)) ?_
       (focus (exact wkI))
       intro i hi
       by_cases hlt : i < (arnd l).length
       case' pos =>
         have hP := True.intro
         obtain ⟨a, b, ha, hb, hs⟩ := arnd_get (l := l) (i := i) (by omega)
         have ht : decide ((i : Int) < ((l.map TPoint.en).length : Int)) = true := by simp; omega
         have hn := next_ix hlt (by omega)
         have hix := arnd_ix (l := l) (i := i) (by omega) hl
         have hz : ((l.map TPoint.en).length : Int) ≠ 0 := by rw [List.length_map]; omega
         have h0 : 0 ≤ (IntKind.i64.wrap ((i : Int) + 1)).tmod ((l.map TPoint.en).length : Int) := by rw [hix]; omega
         have hga := map_get (f := TPoint.en) ha
         have hgb : (l.map TPoint.en)[((IntKind.i64.wrap ((i : Int) + 1)).tmod ((l.map TPoint.en).length : Int)).toNat]? = some b.en := by rw [hix]; exact map_get hb
         have hm := map_take_succ (f := TSegment.en) hs
       case' neg =>
         have hQ := True.intro
         have e : i = (arnd l).length := by omega
         have ht : decide ((i : Int) < ((l.map TPoint.en).length : Int)) = false := by simp; omega
         subst e)
    | with_reducible refine ifP ?_
    | with_reducible refine ifN ?_) <;> (try dsimp only))
  all_goals first
    | (have _ := hP; (refine ⟨i + 1, _, hlt, by omega, ?_, by rw [hm] <;> rfl, ?_, ?_⟩; (focus (exact wkN)); (focus (exact fitsA)); (focus (exact fits_row (clo_rows TSegment.clo_en)))))
    | (have _ := hQ; exact Fin.one rfl (RV.tmp (by rfl)) (clo_list TSegment.clo_en) ⟨rfl, rfl⟩)

theorem meet_i (s t : TSegment) : VCalls Tryz.prog 247 [.agg s.en, .agg t.en] (fun r M => r = I (hmI s t) ∧ M = []) := by
  refine VB Tryz.func247 107 (fun E hE => ?_)
  dsimp only [TPoint.en, TSegment.en]
  repeat' ((first
    | (refine iAL ?_; first | refine AL.any ?_ | refine AL.any (h := POp.k Tryz.func249 (hc := by first | exact isSeg_i s | exact isSeg_i t)) ?_ | refine AL.any (h := POp.k Tryz.func254 (hc := by first | exact side_i s.a s.b t.a | exact side_i s.a s.b t.b | exact side_i t.a t.b s.a | exact side_i t.a t.b s.b)) ?_ | refine AL.any (h := POp.k Tryz.func295 (hc := by first | exact fwd_i s | exact fwd_i t)) ?_ | refine AL.any (h := POp.k Tryz.func296 (hc := by first | exact bef_i (fwdW s).a (fwdW t).a | exact bef_i (fwdW t).b (fwdW s).b | exact bef_i (fwdW s).b (fwdW s).a | exact bef_i (fwdW s).b (fwdW t).a | exact bef_i (fwdW t).b (fwdW s).a | exact bef_i (fwdW t).b (fwdW t).a)) ?_ | refine AL.any (h := POp.k Tryz.func297 (hc := by first | exact isOn_i s t.a | exact isOn_i s t.b | exact isOn_i t s.a | exact isOn_i t s.b)) ?_ | refine AL.U ?_ | refine AL.F ?_ | refine AL.T ?_ | refine AL.T (h := POp.k Tryz.func249 (hc := by first | exact isSeg_i s | exact isSeg_i t)) ?_ | refine AL.T (h := POp.k Tryz.func254 (hc := by first | exact side_i s.a s.b t.a | exact side_i s.a s.b t.b | exact side_i t.a t.b s.a | exact side_i t.a t.b s.b)) ?_ | refine AL.T (h := POp.k Tryz.func297 (hc := by first | exact isOn_i s t.a | exact isOn_i s t.b | exact isOn_i t s.a | exact isOn_i t s.b)) ?_ | refine AL.W ?_ | refine AL.W (h := fun h => by (try rw [h]); exact POp.k Tryz.func249 (hc := by first | exact isSeg_i s | exact isSeg_i t)) ?_ | refine AL.W (h := fun h => by (try rw [h]); exact POp.k Tryz.func254 (hc := by first | exact side_i s.a s.b t.a | exact side_i s.a s.b t.b | exact side_i t.a t.b s.a | exact side_i t.a t.b s.b)) ?_ | refine AL.W (h := fun h => by (try rw [h]); exact POp.k Tryz.func297 (hc := by first | exact isOn_i s t.a | exact isOn_i s t.b | exact isOn_i t s.a | exact isOn_i t s.b)) ?_ | refine AL.nil ?_)
    | ((with_reducible show DL ..); first | refine DL.any ?_ | refine DL.any (h := POp.k Tryz.func254 (hc := by first | exact side_i s.a s.b t.a | exact side_i s.a s.b t.b | exact side_i t.a t.b s.a | exact side_i t.a t.b s.b)) ?_ | refine DL.any (h := POp.k Tryz.func295 (hc := by first | exact fwd_i s | exact fwd_i t)) ?_ | refine DL.U ?_ | refine DL.F ?_ | refine DL.T ?_ | refine DL.T (h := POp.k Tryz.func254 (hc := by first | exact side_i s.a s.b t.a | exact side_i s.a s.b t.b | exact side_i t.a t.b s.a | exact side_i t.a t.b s.b)) ?_ | refine DL.W ?_ | refine DL.W (h := fun h => by (try rw [h]); exact POp.k Tryz.func254 (hc := by first | exact side_i s.a s.b t.a | exact side_i s.a s.b t.b | exact side_i t.a t.b s.a | exact side_i t.a t.b s.b)) ?_ | refine DL.nil ?_)
    | ((with_reducible show DLR ..); first | refine DLR.any ?_ | refine DLR.alloc rfl rfl (by first | exact ze2 | exact ze3 | exact ze4 | exact ze5 | exact ze6 | exact ze7 | exact ze8 | exact ze9 | exact ze10 | exact ze11 | exact ze12 | exact ze14 | exact ze17 | exact ze19 | exact ze21 | exact ze22 | exact ze23 | exact ze24 | exact ze26 | exact ze28 | exact ze31 | exact ze32 | exact ze33 | exact ze34 | exact ze35 | exact ze40 | exact ze41 | exact ze42 | exact ze45 | exact ze47 | exact ze56 | exact ze63 | exact ze64 | exact ze65 | exact ze79 | exact ze81 | exact ze83 | exact ze87 | exact ze98 | exact ze99 | exact ze100 | exact ze132 | exact ze135 | exact ze141 | exact ze151 | exact ze174 | exact ze200) rfl rfl ?_ | refine DLR.box rfl rfl (by rfl) (by rfl) rfl rfl ?_ | refine DLR.store rfl rfl (by rfl) rfl rfl rfl rfl rfl (by rfl) (by rfl) (TT_ok.ld _ _ (by rfl)) (by rfl) (by rfl) rfl ?_ | refine DLR.any (h := fun Y => POp.k Tryz.func254 (hc := by first | exact side_i s.a s.b t.a | exact side_i s.a s.b t.b | exact side_i t.a t.b s.a | exact side_i t.a t.b s.b)) ?_ | refine DLR.any (h := fun Y => POp.k Tryz.func295 (hc := by first | exact fwd_i s | exact fwd_i t)) ?_ | refine DLR.row rfl (fun Y => RowRun.empty (by rfl) (by rfl) (by first | exact rwk22 | exact rwk23 | exact rwk24 | exact rwk31 | exact rwk32 | exact rwk33 | exact rwk40 | exact rwk45 | exact rwk56 | exact rwk63 | exact rwk79 | exact rwk83 | exact rwk98)) rfl rfl ?_ | refine DLR.row rfl (fun Y => RowRun.literal (by rfl) (by first | exact rwk22 | exact rwk23 | exact rwk24 | exact rwk31 | exact rwk32 | exact rwk33 | exact rwk40 | exact rwk45 | exact rwk56 | exact rwk63 | exact rwk79 | exact rwk83 | exact rwk98) (by rfl) (by rfl) (by rfl) (by rfl) (by rfl) (by rfl)) rfl rfl ?_ | refine DLR.append rfl (by rfl) (by first | exact rwk22 | exact rwk23 | exact rwk24 | exact rwk31 | exact rwk32 | exact rwk33 | exact rwk40 | exact rwk45 | exact rwk56 | exact rwk63 | exact rwk79 | exact rwk83 | exact rwk98) (by rfl) rfl rfl rfl rfl rfl rfl (by rfl) (by first | (simp <;> omega) | omega) (by first | (simp [maxLen] <;> omega) | (simp_all [maxLen] <;> omega)) ?_ | refine DLR.W ?_ | refine DLR.W (h := fun h Y => by (try rw [h]); exact POp.k Tryz.func254 (hc := by first | exact side_i s.a s.b t.a | exact side_i s.a s.b t.b | exact side_i t.a t.b s.a | exact side_i t.a t.b s.b)) ?_ | refine DLR.nil ?_)
    | (refine iAW ?_; first | (refine AW.c0 ?_; constructor) | refine AW.dr (id := 3) 13 ?_ | refine AW.dr (id := 5) 3 ?_ | refine AW.drawnR (id := 6) 7 2 [none, none, none, none, some 0, some 1, some 0] [some Rsv, some Rsv] rfl (by kernel_rfl) (by kernel_rfl) (by kernel_rfl) (by rfl) ?_ | refine AW.dr (id := 16) 18 ?_ | refine AW.cT ?_ | refine AW.cF ?_ | (refine AW.c2 ?_ ?_ <;> (intro h; try simp only [bT, bF] at h)))) <;> (try dsimp only))
  all_goals exact Fin.one rfl (RV.tmp (by rfl)) (clo_c _) ⟨by first | (simp only [hmI]; simp_all; done) | (unfold hmI wmul; simp only [*, Bool.false_eq_true, if_false, if_true]; done), rfl⟩

theorem shared_s (s t : TSegment) : VCalls Tryz.prog 287 [.agg s.en, .agg t.en] (fun r M => r = I ((shK s t 4).length) ∧ M = []) := by
  refine VB Tryz.func287 72 (fun E hE => ?_)
  repeat' ((first
    | (refine iAL ?_; first | refine AL.any ?_ | refine AL.U ?_ | refine AL.F ?_ | refine AL.T ?_ | refine AL.T (h := POp.k Tryz.func320 (hc := by first | exact isOn_s s (endE s t i) | exact isOn_s t (endE s t i))) ?_ | refine AL.W ?_ | refine AL.W (h := fun h => by (try rw [h]); exact POp.k Tryz.func320 (hc := by first | exact isOn_s s (endE s t i) | exact isOn_s t (endE s t i))) ?_ | refine AL.nil ?_)
    | ((with_reducible show DL ..); first | refine DL.any ?_ | refine DL.U ?_ | refine DL.F ?_ | refine DL.T ?_ | refine DL.T (h := POp.k Tryz.func320 (hc := by first | exact isOn_s s (endE s t i) | exact isOn_s t (endE s t i))) ?_ | refine DL.W ?_ | refine DL.W (h := fun h => by (try rw [h]); exact POp.k Tryz.func320 (hc := by first | exact isOn_s s (endE s t i) | exact isOn_s t (endE s t i))) ?_ | refine DL.nil ?_)
    | (refine iAW ?_; first | (refine AW.c0 ?_; constructor) | (refine AW.loopD hE (fun i : Nat => (.any :: .any :: .ref 0 0 4 0 0 :: .ref 1 0 4 0 0 :: .any :: .own 2 (shK s t i).length :: .own 3 0 :: I (i : Int) :: .any :: .any :: .any :: .any :: .any :: .any :: .any :: .any :: .any :: .any :: .any :: .any :: .any :: .any :: .any :: .any :: .any :: .any :: .any :: .any :: .any :: .any :: .any :: .any :: .any :: .any :: .any :: .any :: .any :: .any :: .any :: .any :: .any :: .any :: .any :: .any :: .any :: .any :: .any :: .any :: .any :: .any :: .any :: .any :: .any :: .any :: .any :: .any :: .any :: .any :: .any :: .any :: .any :: .any :: .any :: .any :: .any :: .any :: .any :: .any :: .any :: .any :: .any :: .any :: .any :: .any :: [])) (fun i => [some ⟨200, 4, 0, true, [s.en]⟩, some ⟨200, 4, 0, true, [t.en]⟩, some ⟨141, 2, (shK s t i).length, false, (shK s t i).map TPoint.en⟩, some ⟨141, 2, 0, false, (endsL s t).map TPoint.en⟩]) (fun i => 4 - i) (fun i => i ≤ 4) 0 (Nat.zero_le _) ?_ (by first | rfl | (simp; done)) ?_) | refine AW.dr (id := 6) 19 ?_ | refine AW.dr (id := 10) 10 ?_ | refine AW.cT ?_ | refine AW.cF ?_ | (refine AW.c2 ?_ ?_ <;> (intro h; try simp only [bT, bF] at h)))
    | with_reducible refine ifP ?_
    | with_reducible refine ifN ?_) <;> (try dsimp only))
  · (repeat' (first | exact Wk.nil | refine Wk.any ?_ | (with_reducible refine Wk.same ?_) | refine Wk.of ?_ ?_)) <;> first | rfl | (simp; done)
  · intro i hv_i
    by_cases hlt_i : i < 4
    · skip
      have hti : decide ((i : Int) < 4) = true := by simp; omega
      have hni : IntKind.i64.wrap ((i : Int) + 1) = ((i + 1 : Nat) : Int) := by rw [w64 (by omega) (by omega)]; omega
      have hge := end_get (s := s) (t := t) hlt_i
      have hix : ((i : Int)).toNat < ((endsL s t).map TPoint.en).length := by simp [endsL]; omega
      have hln := shK_len s t i
      have hz := onK_zero s t i
      have hm1 := sh_add (s := s) (t := t) (i := i)
      have hm0 := sh_not (s := s) (t := t) (i := i)
      have hc2 : (decide ((i : Int) < 2) = true ∧ decide ((i : Int) ≥ 2) = false ∧ onE s t i = onW t (endE s t i)) ∨ (decide ((i : Int) < 2) = false ∧ decide ((i : Int) ≥ 2) = true ∧ onE s t i = onW s (endE s t i)) := by
        rcases Nat.lt_or_ge i 2 with h2 | h2
        · exact .inl ⟨by simp; omega, by simp; omega, by simp [onE, h2]⟩
        · exact .inr ⟨by simp; omega, by simp; omega, by simp [onE]; omega⟩
      rcases hc2 with ⟨hA, hB, hon⟩ | ⟨hA, hB, hon⟩
      cases hw : onW t (endE s t i)
      all_goals
        repeat' ((first
          | (refine iAL ?_; first | refine AL.any ?_ | refine AL.U ?_ | refine AL.F ?_ | refine AL.T ?_ | refine AL.T (h := POp.k Tryz.func320 (hc := by first | exact isOn_s s (endE s t i) | exact isOn_s t (endE s t i))) ?_ | refine AL.W ?_ | refine AL.W (h := fun h => by (try rw [h]); exact POp.k Tryz.func320 (hc := by first | exact isOn_s s (endE s t i) | exact isOn_s t (endE s t i))) ?_ | refine AL.nil ?_)
          | ((with_reducible show DL ..); first | refine DL.any ?_ | refine DL.U ?_ | refine DL.F ?_ | refine DL.T ?_ | refine DL.T (h := POp.k Tryz.func320 (hc := by first | exact isOn_s s (endE s t i) | exact isOn_s t (endE s t i))) ?_ | refine DL.W ?_ | refine DL.W (h := fun h => by (try rw [h]); exact POp.k Tryz.func320 (hc := by first | exact isOn_s s (endE s t i) | exact isOn_s t (endE s t i))) ?_ | refine DL.nil ?_)
          | (refine iAW ?_; first | (refine AW.c0 ?_; constructor) | (refine AW.loopD hE (fun k : Nat => (.any :: .any :: .ref 0 0 4 0 0 :: .ref 1 0 4 0 0 :: .any :: .own 2 (shK s t i).length :: .own 3 0 :: I (i : Int) :: B (onK s t i k) :: I (k : Int) :: .any :: .any :: .any :: .any :: .any :: .any :: .any :: .any :: .any :: .any :: .any :: .any :: .any :: .any :: .any :: .any :: .any :: .any :: .any :: .any :: .any :: .any :: .any :: .any :: .any :: .any :: .any :: .any :: .any :: .any :: .any :: .any :: .any :: .any :: .any :: .any :: .any :: .any :: .any :: .any :: .any :: .any :: .any :: .any :: .any :: .any :: .any :: .any :: .any :: .any :: .any :: .any :: .any :: .any :: .any :: .any :: .any :: .any :: .any :: .any :: .any :: .any :: .any :: .any :: [])) (fun k => [some ⟨200, 4, 0, true, [s.en]⟩, some ⟨200, 4, 0, true, [t.en]⟩, some ⟨141, 2, (shK s t i).length, false, (shK s t i).map TPoint.en⟩, some ⟨141, 2, 0, false, (endsL s t).map TPoint.en⟩]) (fun k => (shK s t i).length - k) (fun k => k ≤ (shK s t i).length) 0 (Nat.zero_le _) ?_ (by first | rfl | (simp; done)) ?_) | refine AW.dr (id := 6) 19 ?_ | refine AW.dr (id := 10) 10 ?_ | refine AW.cT ?_ | refine AW.cF ?_ | (refine AW.c2 ?_ ?_ <;> (intro h; try simp only [bT, bF] at h)))
          | with_reducible refine ifP ?_
          | with_reducible refine ifN ?_) <;> (try dsimp only))
        · (repeat' (first | exact Wk.nil | refine Wk.any ?_ | (with_reducible refine Wk.same ?_) | refine Wk.of ?_ ?_)) <;> first | rfl | (simp_all)
        · intro k hv_k
          by_cases hlt_k : k < (shK s t i).length
          · skip
            obtain ⟨q, hq⟩ : ∃ q, (shK s t i)[k]? = some q := ⟨_, List.getElem?_eq_getElem hlt_k⟩
            have hgk := map_get (f := TPoint.en) hq
            have htk := lt_true (f := TPoint.en) hlt_k
            have hnk := next_ix hlt_k (by omega)
            have hkx : ((k : Int)).toNat < ((shK s t i).map TPoint.en).length := by simp; omega
            have hks := onK_succ hq
            repeat' ((first
              | (refine iAL ?_; first | refine AL.any ?_ | refine AL.U ?_ | refine AL.F ?_ | refine AL.T ?_ | refine AL.T (h := POp.k Tryz.func320 (hc := by first | exact isOn_s s (endE s t i) | exact isOn_s t (endE s t i))) ?_ | refine AL.W ?_ | refine AL.W (h := fun h => by (try rw [h]); exact POp.k Tryz.func320 (hc := by first | exact isOn_s s (endE s t i) | exact isOn_s t (endE s t i))) ?_ | refine AL.nil ?_)
              | ((with_reducible show DL ..); first | refine DL.any ?_ | refine DL.U ?_ | refine DL.F ?_ | refine DL.T ?_ | refine DL.T (h := POp.k Tryz.func320 (hc := by first | exact isOn_s s (endE s t i) | exact isOn_s t (endE s t i))) ?_ | refine DL.W ?_ | refine DL.W (h := fun h => by (try rw [h]); exact POp.k Tryz.func320 (hc := by first | exact isOn_s s (endE s t i) | exact isOn_s t (endE s t i))) ?_ | refine DL.nil ?_)
              | (refine iAW ?_; first | (refine AW.c0 ?_; constructor) | refine AW.dr (id := 6) 19 ?_ | refine AW.dr (id := 10) 10 ?_ | refine AW.cT ?_ | refine AW.cF ?_ | (refine AW.c2 ?_ ?_ <;> (intro h; try simp only [bT, bF] at h)))
              | with_reducible refine ifP ?_
              | with_reducible refine ifN ?_) <;> (try dsimp only))
            all_goals first
              | (refine ⟨k + 1, _, hlt_k, by omega, ?_, rfl, ?_, ?_⟩; (focus ((repeat' (first | exact Wk.nil | refine Wk.any ?_ | (with_reducible refine Wk.same ?_) | refine Wk.of ?_ ?_)) <;> (simp_all))); (focus (exact fitsA)); (focus (exact fitsM_cons (clo_one s.clo_en) (fitsM_cons (clo_one t.clo_en) (fitsM_cons (clo_rows TPoint.clo_en) (fitsM_cons (clo_rows TPoint.clo_en) (FitsM.nil _)))))))
          · have e_k : k = (shK s t i).length := by omega
            have htk := lt_false (f := TPoint.en) (show ¬ k < (shK s t i).length by omega)
            subst e_k
            repeat' ((first
              | (refine iAL ?_; first | refine AL.any ?_ | refine AL.U ?_ | refine AL.F ?_ | refine AL.T ?_ | refine AL.T (h := POp.k Tryz.func320 (hc := by first | exact isOn_s s (endE s t i) | exact isOn_s t (endE s t i))) ?_ | refine AL.W ?_ | refine AL.W (h := fun h => by (try rw [h]); exact POp.k Tryz.func320 (hc := by first | exact isOn_s s (endE s t i) | exact isOn_s t (endE s t i))) ?_ | refine AL.nil ?_)
              | ((with_reducible show DL ..); first | refine DL.any ?_ | refine DL.U ?_ | refine DL.F ?_ | refine DL.T ?_ | refine DL.T (h := POp.k Tryz.func320 (hc := by first | exact isOn_s s (endE s t i) | exact isOn_s t (endE s t i))) ?_ | refine DL.W ?_ | refine DL.W (h := fun h => by (try rw [h]); exact POp.k Tryz.func320 (hc := by first | exact isOn_s s (endE s t i) | exact isOn_s t (endE s t i))) ?_ | refine DL.nil ?_)
              | (refine iAW ?_; first | (refine AW.c0 ?_; constructor) | refine AW.dr (id := 6) 19 ?_ | refine AW.dr (id := 10) 10 ?_ | refine AW.cT ?_ | refine AW.cF ?_ | (refine AW.c2 ?_ ?_ <;> (intro h; try simp only [bT, bF] at h)))
              | with_reducible refine ifP ?_
              | with_reducible refine ifN ?_) <;> (try dsimp only))
            all_goals first
              | (refine ⟨i + 1, _, hlt_i, by omega, ?_, by rw [(hm1 (by assumption)).1, (hm1 (by assumption)).2] <;> rfl, ?_, ?_⟩; (focus ((repeat' (first | exact Wk.nil | refine Wk.any ?_ | (with_reducible refine Wk.same ?_) | refine Wk.of ?_ ?_)) <;> (simp_all))); (focus (exact fitsA)); (focus (exact fitsM_cons (clo_one s.clo_en) (fitsM_cons (clo_one t.clo_en) (fitsM_cons (clo_rows TPoint.clo_en) (fitsM_cons (clo_rows TPoint.clo_en) (FitsM.nil _)))))))
              | (refine ⟨i + 1, _, hlt_i, by omega, ?_, by rw [(hm0 (by assumption)).1, (hm0 (by assumption)).2] <;> rfl, ?_, ?_⟩; (focus ((repeat' (first | exact Wk.nil | refine Wk.any ?_ | (with_reducible refine Wk.same ?_) | refine Wk.of ?_ ?_)) <;> (simp_all))); (focus (exact fitsA)); (focus (exact fitsM_cons (clo_one s.clo_en) (fitsM_cons (clo_one t.clo_en) (fitsM_cons (clo_rows TPoint.clo_en) (fitsM_cons (clo_rows TPoint.clo_en) (FitsM.nil _)))))))
    · have e_i : i = 4 := by omega
      have hti : decide ((i : Int) < 4) = false := by simp; omega
      subst e_i
      repeat' ((first
        | (refine iAL ?_; first | refine AL.any ?_ | refine AL.U ?_ | refine AL.F ?_ | refine AL.T ?_ | refine AL.T (h := POp.k Tryz.func320 (hc := by first | exact isOn_s s (endE s t i) | exact isOn_s t (endE s t i))) ?_ | refine AL.W ?_ | refine AL.W (h := fun h => by (try rw [h]); exact POp.k Tryz.func320 (hc := by first | exact isOn_s s (endE s t i) | exact isOn_s t (endE s t i))) ?_ | refine AL.nil ?_)
        | ((with_reducible show DL ..); first | refine DL.any ?_ | refine DL.U ?_ | refine DL.F ?_ | refine DL.T ?_ | refine DL.T (h := POp.k Tryz.func320 (hc := by first | exact isOn_s s (endE s t i) | exact isOn_s t (endE s t i))) ?_ | refine DL.W ?_ | refine DL.W (h := fun h => by (try rw [h]); exact POp.k Tryz.func320 (hc := by first | exact isOn_s s (endE s t i) | exact isOn_s t (endE s t i))) ?_ | refine DL.nil ?_)
        | (refine iAW ?_; first | (refine AW.c0 ?_; constructor) | refine AW.dr (id := 6) 19 ?_ | refine AW.dr (id := 10) 10 ?_ | refine AW.cT ?_ | refine AW.cF ?_ | (refine AW.c2 ?_ ?_ <;> (intro h; try simp only [bT, bF] at h)))
        | with_reducible refine ifP ?_
        | with_reducible refine ifN ?_) <;> (try dsimp only))
      all_goals first
        | exact Fin.one rfl (RV.tmp (by rfl)) (clo_c _) ⟨by first | rfl | (simp_all; done), rfl⟩

theorem meet_s0 (s t : TSegment) : VCalls Tryz.prog 223 [.agg s.en, .agg t.en] (fun r M => r = I (hmS s t) ∧ M = []) := by
  refine VB Tryz.func223 118 (fun E hE => ?_)
  dsimp only [TPoint.en, TSegment.en]
  repeat' ((first
    | (refine iAL ?_; first | refine AL.any ?_ | refine AL.any (h := POp.k Tryz.func240 (hc := by first | exact isSeg_s s | exact isSeg_s t)) ?_ | refine AL.any (h := POp.k Tryz.func287 (hc := shared_s s t)) ?_ | refine AL.U ?_ | refine AL.F ?_ | refine AL.T ?_ | refine AL.T (h := POp.k Tryz.func175 (hc := min_s _ _)) ?_ | refine AL.T (h := POp.k Tryz.func240 (hc := by first | exact isSeg_s s | exact isSeg_s t)) ?_ | refine AL.T (h := POp.k Tryz.func244 (hc := by first | exact side_s s.a s.b t.a | exact side_s s.a s.b t.b | exact side_s t.a t.b s.a | exact side_s t.a t.b s.b)) ?_ | refine AL.W ?_ | refine AL.W (h := fun h => by (try rw [h]); exact POp.k Tryz.func175 (hc := min_s _ _)) ?_ | refine AL.W (h := fun h => by (try rw [h]); exact POp.k Tryz.func240 (hc := by first | exact isSeg_s s | exact isSeg_s t)) ?_ | refine AL.W (h := fun h => by (try rw [h]); exact POp.k Tryz.func244 (hc := by first | exact side_s s.a s.b t.a | exact side_s s.a s.b t.b | exact side_s t.a t.b s.a | exact side_s t.a t.b s.b)) ?_ | refine AL.nil ?_)
    | ((with_reducible show DL ..); first | refine DL.any ?_ | refine DL.any (h := POp.k Tryz.func175 (hc := min_s _ _)) ?_ | refine DL.any (h := POp.k Tryz.func222 (hc := max_s _ _)) ?_ | refine DL.any (h := POp.k Tryz.func244 (hc := by first | exact side_s s.a s.b t.a | exact side_s s.a s.b t.b | exact side_s t.a t.b s.a | exact side_s t.a t.b s.b)) ?_ | refine DL.U ?_ | refine DL.F ?_ | refine DL.T ?_ | refine DL.T (h := POp.k Tryz.func175 (hc := min_s _ _)) ?_ | refine DL.T (h := POp.k Tryz.func222 (hc := max_s _ _)) ?_ | refine DL.T (h := POp.k Tryz.func244 (hc := by first | exact side_s s.a s.b t.a | exact side_s s.a s.b t.b | exact side_s t.a t.b s.a | exact side_s t.a t.b s.b)) ?_ | refine DL.W ?_ | refine DL.W (h := fun h => by (try rw [h]); exact POp.k Tryz.func175 (hc := min_s _ _)) ?_ | refine DL.W (h := fun h => by (try rw [h]); exact POp.k Tryz.func222 (hc := max_s _ _)) ?_ | refine DL.W (h := fun h => by (try rw [h]); exact POp.k Tryz.func244 (hc := by first | exact side_s s.a s.b t.a | exact side_s s.a s.b t.b | exact side_s t.a t.b s.a | exact side_s t.a t.b s.b)) ?_ | refine DL.nil ?_)
    | (refine iAW ?_; first | (refine AW.c0 ?_; constructor) | refine AW.dr (id := 3) 63 ?_ | refine AW.dr (id := 7) 30 ?_ | refine AW.cT ?_ | refine AW.cF ?_ | (refine AW.c2 ?_ ?_ <;> (intro h; try simp only [bT, bF] at h)))) <;> (try dsimp only))
  all_goals exact Fin.one rfl (RV.tmp (by rfl)) (clo_c _) ⟨by first | (simp only [hmS, apW]; simp_all; done) | (unfold hmS apW wmul; simp only [*, Bool.false_eq_true, if_false, if_true]; done), rfl⟩

theorem meet_s (s t : TSegment) : VCalls Tryz.prog 223 [.agg s.en, .agg t.en] (fun r M => r = I (hmI s t) ∧ M = []) := hmS_eq s t ▸ meet_s0 s t
theorem isRing_s (l : List TPoint) (hl : l.length ≤ 1048576) : VCalls Tryz.prog 172 [.ro 2 (l.map TPoint.en)] (fun r M => r = B (isRing l) ∧ M = []) := by
  refine VB Tryz.func172 55 (fun E hE => ?_)
  have hclo : Clo (.ro 2 (l.map TPoint.en)) := clo_list TPoint.clo_en
  have hclA : Clo (.ro 4 ((arnd l).map TSegment.en)) := clo_list TSegment.clo_en
  have hal := arnd_len l
  have hclo : Clo (.ro 2 (l.map TPoint.en)) := clo_list TPoint.clo_en
  have hclA : Clo (.ro 4 ((arnd l).map TSegment.en)) := clo_list TSegment.clo_en
  have hal := arnd_len l
  repeat' ((first
    | (refine iAL ?_; first | refine AL.any ?_ | refine AL.any (h := POp.k Tryz.func96 (hc := inr_s _ _ _)) ?_ | refine AL.any (h := POp.k Tryz.func239 (hc := arnd_s _ (by assumption))) ?_ | refine AL.any (h := POp.k Tryz.func240 (hc := isSeg_s x)) ?_ | refine AL.U ?_ | refine AL.F ?_ | refine AL.T ?_ | refine AL.W ?_ | refine AL.nil ?_)
    | ((with_reducible show DL ..); first | refine DL.any ?_ | refine DL.any (h := POp.k Tryz.func223 (hc := meet_s x y)) ?_ | refine DL.nil ?_)
    | (refine iAW ?_; first | (refine AW.c0 ?_; constructor) | (refine AW.loopD hE (fun i : Nat => [.ro 2 (l.map TPoint.en), .any, .any, .ro 4 ((arnd l).map TSegment.en), I (i : Int), .any, .any, .any, .any, .any, .any, .any, .any, .any, .any, .any, .any, .any, .any, .any, .any, .any, .any, .any, .any, .any, .any, .any, .any, .any, .any, .any, .any, .any, .any, .any, .any, .any, .any, .any, .any, .any, .any, .any, .any, .any, .any, .any, .any, .any, .any, .any, .any, .any, .any, .any]) (fun i => []) (fun i => (arnd l).length - i) (fun i => i ≤ (arnd l).length ∧ rgOk l i = true) 0 ⟨Nat.zero_le _, by simp [rgOk]⟩ ?_ (by first | rfl | (simp; done)) ?_) | refine AW.dr (id := 15) 10 ?_ | refine AW.cT ?_ | refine AW.cF ?_ | (refine AW.c2 ?_ ?_ <;> (intro h; try simp only [bT, bF] at h)))
    | with_reducible refine ifP ?_
    | with_reducible refine ifN ?_) <;> (try dsimp only))
  any_goals first | exact Fin.one rfl (RV.tmp (by rfl)) (clo_c _) ⟨by simp_all [isRing, inr] <;> omega, rfl⟩
  · (repeat' (first | exact Wk.nil | refine Wk.any ?_ | (with_reducible refine Wk.same ?_) | refine Wk.of ?_ ?_)) <;> first | rfl | (simp; done)
  · intro i hv_i
    have hclo : Clo (.ro 2 (l.map TPoint.en)) := clo_list TPoint.clo_en
    have hclA : Clo (.ro 4 ((arnd l).map TSegment.en)) := clo_list TSegment.clo_en
    have hal := arnd_len l
    by_cases hlt_i : i < (arnd l).length
    · skip
      obtain ⟨x, hx⟩ : ∃ x, (arnd l)[i]? = some x := ⟨_, List.getElem?_eq_getElem hlt_i⟩
      have hgx := map_get (f := TSegment.en) hx
      have hti := lt_true (f := TSegment.en) hlt_i
      have hni := next_ix hlt_i (by omega)
      have hro := rgOk_succ l i
      have hsx := sAt_of hx
      have hra : rgAt l i = (isSeg x && rgIn l i i) := by unfold rgAt; rw [hsx]
      repeat' ((first
        | (refine iAL ?_; first | refine AL.any ?_ | refine AL.any (h := POp.k Tryz.func96 (hc := inr_s _ _ _)) ?_ | refine AL.any (h := POp.k Tryz.func239 (hc := arnd_s _ (by assumption))) ?_ | refine AL.any (h := POp.k Tryz.func240 (hc := isSeg_s x)) ?_ | refine AL.U ?_ | refine AL.F ?_ | refine AL.T ?_ | refine AL.W ?_ | refine AL.nil ?_)
        | ((with_reducible show DL ..); first | refine DL.any ?_ | refine DL.any (h := POp.k Tryz.func223 (hc := meet_s x y)) ?_ | refine DL.nil ?_)
        | (refine iAW ?_; first | (refine AW.c0 ?_; constructor) | (refine AW.loopD hE (fun k : Nat => [.ro 2 (l.map TPoint.en), .any, .any, .ro 4 ((arnd l).map TSegment.en), I (i : Int), I (k : Int), .any, .any, .any, .any, .any, .any, .any, .any, .any, .any, .any, .any, .any, .any, .any, .any, .any, .any, .any, .any, .any, .any, .any, .any, .any, .any, .any, .any, .any, .any, .any, .any, .any, .any, .any, .any, .any, .any, .any, .any, .any, .any, .any, .any, .any, .any, .any, .any, .any, .any]) (fun k => []) (fun k => i - k) (fun k => k ≤ i ∧ rgIn l i k = true) 0 ⟨Nat.zero_le _, by simp [rgIn]⟩ ?_ (by first | rfl | (simp; done)) ?_) | refine AW.dr (id := 15) 10 ?_ | refine AW.cT ?_ | refine AW.cF ?_ | (refine AW.c2 ?_ ?_ <;> (intro h; try simp only [bT, bF] at h)))
        | with_reducible refine ifP ?_
        | with_reducible refine ifN ?_) <;> (try dsimp only))
      any_goals first | exact Fin.one rfl (RV.tmp (by rfl)) (clo_c _) ⟨by have e2 := rgOk_not (l := l) (i := i) (n := l.length) (by simp_all) (by omega); simp_all [isRing], rfl⟩
      · (repeat' (first | exact Wk.nil | refine Wk.any ?_ | (with_reducible refine Wk.same ?_) | refine Wk.of ?_ ?_)) <;> first | rfl | (simp; done)
      · intro k hv_k
        have hclo : Clo (.ro 2 (l.map TPoint.en)) := clo_list TPoint.clo_en
        have hclA : Clo (.ro 4 ((arnd l).map TSegment.en)) := clo_list TSegment.clo_en
        have hal := arnd_len l
        by_cases hlt_k : k < i
        · skip
          obtain ⟨y, hy⟩ : ∃ y, (arnd l)[k]? = some y := ⟨_, List.getElem?_eq_getElem (by omega)⟩
          have hgy := map_get (f := TSegment.en) hy
          have htk : decide ((k : Int) < (i : Int)) = true := by simp; omega
          have hnk := next_ix hlt_k (by omega)
          have hsy := sAt_of hy
          have hrk : rgIn l i (k + 1) = (rgIn l i k && (hmI x y == wantN l.length i k)) := by rw [rgIn_succ, hsx, hsy]
          have hen : ((arnd l).map TSegment.en).length = l.length := by simp [hal]
          rcases want_s (n := l.length) (i := i) (k := k) (by omega) hlt_k hl with ⟨w1, wN⟩ | ⟨w1, w2, wN⟩ | ⟨w1, w2, w3, wN⟩ | ⟨w1, w2, w3, wN⟩
          all_goals try rw [← hen] at w3
          all_goals
            repeat' ((first
              | (refine iAL ?_; first | refine AL.any ?_ | refine AL.any (h := POp.k Tryz.func96 (hc := inr_s _ _ _)) ?_ | refine AL.any (h := POp.k Tryz.func239 (hc := arnd_s _ (by assumption))) ?_ | refine AL.any (h := POp.k Tryz.func240 (hc := isSeg_s x)) ?_ | refine AL.U ?_ | refine AL.F ?_ | refine AL.T ?_ | refine AL.W ?_ | refine AL.nil ?_)
              | ((with_reducible show DL ..); first | refine DL.any ?_ | refine DL.any (h := POp.k Tryz.func223 (hc := meet_s x y)) ?_ | refine DL.nil ?_)
              | (refine iAW ?_; first | (refine AW.c0 ?_; constructor) | refine AW.dr (id := 15) 10 ?_ | refine AW.cT ?_ | refine AW.cF ?_ | (refine AW.c2 ?_ ?_ <;> (intro h; try simp only [bT, bF] at h)))
              | with_reducible refine ifP ?_
              | with_reducible refine ifN ?_) <;> (try dsimp only))
            all_goals first
              | (refine ⟨k + 1, _, ⟨hlt_k, by simp_all⟩, by omega, ?_, rfl, ?_, ?_⟩; (focus ((repeat' (first | exact Wk.nil | refine Wk.any ?_ | (with_reducible refine Wk.same ?_) | refine Wk.of ?_ ?_)) <;> (simp_all))); (focus (exact fitsA)); (focus (exact FitsM.nil _)))
              | exact Fin.one rfl (RV.tmp (by rfl)) (clo_c _) ⟨by have e1 := rgIn_not (l := l) (i := i) (k := k) (n := i) (by simp_all) hlt_k; have e2 := rgOk_not (l := l) (i := i) (n := l.length) (by simp_all) (by omega); simp_all [isRing], rfl⟩
        · have e_k : k = i := by omega
          have htk : decide ((k : Int) < (i : Int)) = false := by simp; omega
          have e2 := e_k.symm
          subst e2
          repeat' ((first
            | (refine iAL ?_; first | refine AL.any ?_ | refine AL.any (h := POp.k Tryz.func96 (hc := inr_s _ _ _)) ?_ | refine AL.any (h := POp.k Tryz.func239 (hc := arnd_s _ (by assumption))) ?_ | refine AL.any (h := POp.k Tryz.func240 (hc := isSeg_s x)) ?_ | refine AL.U ?_ | refine AL.F ?_ | refine AL.T ?_ | refine AL.W ?_ | refine AL.nil ?_)
            | ((with_reducible show DL ..); first | refine DL.any ?_ | refine DL.any (h := POp.k Tryz.func223 (hc := meet_s x y)) ?_ | refine DL.nil ?_)
            | (refine iAW ?_; first | (refine AW.c0 ?_; constructor) | refine AW.dr (id := 15) 10 ?_ | refine AW.cT ?_ | refine AW.cF ?_ | (refine AW.c2 ?_ ?_ <;> (intro h; try simp only [bT, bF] at h)))
            | with_reducible refine ifP ?_
            | with_reducible refine ifN ?_) <;> (try dsimp only))
          all_goals first
            | (refine ⟨i + 1, _, ⟨hlt_i, by simp_all⟩, by omega, ?_, rfl, ?_, ?_⟩; (focus ((repeat' (first | exact Wk.nil | refine Wk.any ?_ | (with_reducible refine Wk.same ?_) | refine Wk.of ?_ ?_)) <;> (simp_all))); (focus (exact fitsA)); (focus (exact FitsM.nil _)))
    · have e_i : i = (arnd l).length := by omega
      have hti := lt_false (f := TSegment.en) (show ¬ i < (arnd l).length by omega)
      subst e_i
      repeat' ((first
        | (refine iAL ?_; first | refine AL.any ?_ | refine AL.any (h := POp.k Tryz.func96 (hc := inr_s _ _ _)) ?_ | refine AL.any (h := POp.k Tryz.func239 (hc := arnd_s _ (by assumption))) ?_ | refine AL.any (h := POp.k Tryz.func240 (hc := isSeg_s x)) ?_ | refine AL.U ?_ | refine AL.F ?_ | refine AL.T ?_ | refine AL.W ?_ | refine AL.nil ?_)
        | ((with_reducible show DL ..); first | refine DL.any ?_ | refine DL.any (h := POp.k Tryz.func223 (hc := meet_s x y)) ?_ | refine DL.nil ?_)
        | (refine iAW ?_; first | (refine AW.c0 ?_; constructor) | refine AW.dr (id := 15) 10 ?_ | refine AW.cT ?_ | refine AW.cF ?_ | (refine AW.c2 ?_ ?_ <;> (intro h; try simp only [bT, bF] at h)))
        | with_reducible refine ifP ?_
        | with_reducible refine ifN ?_) <;> (try dsimp only))
      all_goals first
        | exact Fin.one rfl (RV.tmp (by rfl)) (clo_c _) ⟨by first | (simp_all [isRing]; done) | (simp_all [isRing, inr] <;> omega), rfl⟩

theorem isRing_i (l : List TPoint) (hl : l.length ≤ 1048576) : VCalls Tryz.prog 182 [.ro 2 (l.map TPoint.en)] (fun r M => r = B (isRing l) ∧ M = []) := by
  refine VB Tryz.func182 59 (fun E hE => ?_)
  have hclo : Clo (.ro 2 (l.map TPoint.en)) := clo_list TPoint.clo_en
  have hclA : Clo (.ro 4 ((arnd l).map TSegment.en)) := clo_list TSegment.clo_en
  have hal := arnd_len l
  have hclo : Clo (.ro 2 (l.map TPoint.en)) := clo_list TPoint.clo_en
  have hclA : Clo (.ro 4 ((arnd l).map TSegment.en)) := clo_list TSegment.clo_en
  have hal := arnd_len l
  repeat' ((first
    | (refine iAL ?_; first | refine AL.any ?_ | refine AL.any (h := POp.k Tryz.func248 (hc := arnd_i _ (by assumption))) ?_ | refine AL.any (h := POp.k Tryz.func249 (hc := isSeg_i x)) ?_ | refine AL.U ?_ | refine AL.F ?_ | refine AL.T ?_ | refine AL.W ?_ | refine AL.nil ?_)
    | ((with_reducible show DL ..); first | refine DL.any ?_ | refine DL.any (h := POp.k Tryz.func247 (hc := meet_i x y)) ?_ | refine DL.nil ?_)
    | (refine iAW ?_; first | (refine AW.c0 ?_; constructor) | (refine AW.loopD hE (fun i : Nat => [.ro 2 (l.map TPoint.en), .any, .any, .ro 4 ((arnd l).map TSegment.en), .any, .any, .any, .any, .any, .any, .any, .any, .any, .any, .any, .any, .any, .any, I (((arnd l).map TSegment.en).length : Int), I (i : Int), .any, .any, .any, .any, .any, .any, .any, .any, .any, .any, .any, .any, .any, .any, .any, .any, .any, .any, .any, .any, .any, .any, .any, .any, .any, .any, .any, .any, .any, .any, .any, .any, .any, .any, .any, .any, .any, .any, .any, .any]) (fun i => []) (fun i => (arnd l).length - i) (fun i => i ≤ (arnd l).length ∧ rgOk l i = true) 0 ⟨Nat.zero_le _, by simp [rgOk]⟩ ?_ (by first | rfl | (simp; done)) ?_) | refine AW.dr (id := 15) 10 ?_ | refine AW.cT ?_ | refine AW.cF ?_ | (refine AW.c2 ?_ ?_ <;> (intro h; try simp only [bT, bF] at h)))
    | with_reducible refine ifP ?_
    | with_reducible refine ifN ?_) <;> (try dsimp only))
  any_goals first | exact Fin.one rfl (RV.tmp (by rfl)) (clo_c _) ⟨by simp_all [isRing, inr] <;> omega, rfl⟩
  · (repeat' (first | exact Wk.nil | refine Wk.any ?_ | (with_reducible refine Wk.same ?_) | refine Wk.of ?_ ?_)) <;> first | rfl | (simp; done)
  · intro i hv_i
    have hclo : Clo (.ro 2 (l.map TPoint.en)) := clo_list TPoint.clo_en
    have hclA : Clo (.ro 4 ((arnd l).map TSegment.en)) := clo_list TSegment.clo_en
    have hal := arnd_len l
    by_cases hlt_i : i < (arnd l).length
    · skip
      obtain ⟨x, hx⟩ : ∃ x, (arnd l)[i]? = some x := ⟨_, List.getElem?_eq_getElem hlt_i⟩
      have hgx := map_get (f := TSegment.en) hx
      have hti := lt_true (f := TSegment.en) hlt_i
      have hni := next_ix hlt_i (by omega)
      have hro := rgOk_succ l i
      have hsx := sAt_of hx
      have hra : rgAt l i = (isSeg x && rgIn l i i) := by unfold rgAt; rw [hsx]
      repeat' ((first
        | (refine iAL ?_; first | refine AL.any ?_ | refine AL.any (h := POp.k Tryz.func248 (hc := arnd_i _ (by assumption))) ?_ | refine AL.any (h := POp.k Tryz.func249 (hc := isSeg_i x)) ?_ | refine AL.U ?_ | refine AL.F ?_ | refine AL.T ?_ | refine AL.W ?_ | refine AL.nil ?_)
        | ((with_reducible show DL ..); first | refine DL.any ?_ | refine DL.any (h := POp.k Tryz.func247 (hc := meet_i x y)) ?_ | refine DL.nil ?_)
        | (refine iAW ?_; first | (refine AW.c0 ?_; constructor) | (refine AW.loopD hE (fun k : Nat => [.ro 2 (l.map TPoint.en), .any, .any, .ro 4 ((arnd l).map TSegment.en), I (i : Int), .any, .any, .any, .any, .any, .any, .any, .any, .any, .any, .any, .any, .any, I (((arnd l).map TSegment.en).length : Int), I (i : Int), .any, .any, .any, .any, .any, .any, .any, .any, I (i : Int), I (k : Int), .any, .any, .any, .any, .any, .any, .any, .any, .any, .any, .any, .any, .any, .any, .any, .any, .any, .any, .any, .any, .any, .any, .any, .any, .any, .any, .any, .any, .any, .any]) (fun k => []) (fun k => i - k) (fun k => k ≤ i ∧ rgIn l i k = true) 0 ⟨Nat.zero_le _, by simp [rgIn]⟩ ?_ (by first | rfl | (simp; done)) ?_) | refine AW.dr (id := 15) 10 ?_ | refine AW.cT ?_ | refine AW.cF ?_ | (refine AW.c2 ?_ ?_ <;> (intro h; try simp only [bT, bF] at h)))
        | with_reducible refine ifP ?_
        | with_reducible refine ifN ?_) <;> (try dsimp only))
      any_goals first | exact Fin.one rfl (RV.tmp (by rfl)) (clo_c _) ⟨by have e2 := rgOk_not (l := l) (i := i) (n := l.length) (by simp_all) (by omega); simp_all [isRing], rfl⟩
      · (repeat' (first | exact Wk.nil | refine Wk.any ?_ | (with_reducible refine Wk.same ?_) | refine Wk.of ?_ ?_)) <;> first | rfl | (simp; done)
      · intro k hv_k
        have hclo : Clo (.ro 2 (l.map TPoint.en)) := clo_list TPoint.clo_en
        have hclA : Clo (.ro 4 ((arnd l).map TSegment.en)) := clo_list TSegment.clo_en
        have hal := arnd_len l
        by_cases hlt_k : k < i
        · skip
          obtain ⟨y, hy⟩ : ∃ y, (arnd l)[k]? = some y := ⟨_, List.getElem?_eq_getElem (by omega)⟩
          have hgy := map_get (f := TSegment.en) hy
          have htk : decide ((k : Int) < (i : Int)) = true := by simp; omega
          have hnk := next_ix hlt_k (by omega)
          have hsy := sAt_of hy
          have hrk : rgIn l i (k + 1) = (rgIn l i k && (hmI x y == wantN l.length i k)) := by rw [rgIn_succ, hsx, hsy]
          have hen : ((arnd l).map TSegment.en).length = l.length := by simp [hal]
          rcases want_i (n := l.length) (i := i) (k := k) (by omega) hlt_k hl with ⟨w1, wN⟩ | ⟨w1, w2, wN⟩ | ⟨w1, w2, w3, wN⟩ | ⟨w1, w2, w3, wN⟩
          all_goals try rw [← hen] at w3
          all_goals
            repeat' ((first
              | (refine iAL ?_; first | refine AL.any ?_ | refine AL.any (h := POp.k Tryz.func248 (hc := arnd_i _ (by assumption))) ?_ | refine AL.any (h := POp.k Tryz.func249 (hc := isSeg_i x)) ?_ | refine AL.U ?_ | refine AL.F ?_ | refine AL.T ?_ | refine AL.W ?_ | refine AL.nil ?_)
              | ((with_reducible show DL ..); first | refine DL.any ?_ | refine DL.any (h := POp.k Tryz.func247 (hc := meet_i x y)) ?_ | refine DL.nil ?_)
              | (refine iAW ?_; first | (refine AW.c0 ?_; constructor) | refine AW.dr (id := 15) 10 ?_ | refine AW.cT ?_ | refine AW.cF ?_ | (refine AW.c2 ?_ ?_ <;> (intro h; try simp only [bT, bF] at h)))
              | with_reducible refine ifP ?_
              | with_reducible refine ifN ?_) <;> (try dsimp only))
            all_goals first
              | (refine ⟨k + 1, _, ⟨hlt_k, by simp_all⟩, by omega, ?_, rfl, ?_, ?_⟩; (focus ((repeat' (first | exact Wk.nil | refine Wk.any ?_ | (with_reducible refine Wk.same ?_) | refine Wk.of ?_ ?_)) <;> (simp_all))); (focus (exact fitsA)); (focus (exact FitsM.nil _)))
              | exact Fin.one rfl (RV.tmp (by rfl)) (clo_c _) ⟨by have e1 := rgIn_not (l := l) (i := i) (k := k) (n := i) (by simp_all) hlt_k; have e2 := rgOk_not (l := l) (i := i) (n := l.length) (by simp_all) (by omega); simp_all [isRing], rfl⟩
        · have e_k : k = i := by omega
          have htk : decide ((k : Int) < (i : Int)) = false := by simp; omega
          have e2 := e_k.symm
          subst e2
          repeat' ((first
            | (refine iAL ?_; first | refine AL.any ?_ | refine AL.any (h := POp.k Tryz.func248 (hc := arnd_i _ (by assumption))) ?_ | refine AL.any (h := POp.k Tryz.func249 (hc := isSeg_i x)) ?_ | refine AL.U ?_ | refine AL.F ?_ | refine AL.T ?_ | refine AL.W ?_ | refine AL.nil ?_)
            | ((with_reducible show DL ..); first | refine DL.any ?_ | refine DL.any (h := POp.k Tryz.func247 (hc := meet_i x y)) ?_ | refine DL.nil ?_)
            | (refine iAW ?_; first | (refine AW.c0 ?_; constructor) | refine AW.dr (id := 15) 10 ?_ | refine AW.cT ?_ | refine AW.cF ?_ | (refine AW.c2 ?_ ?_ <;> (intro h; try simp only [bT, bF] at h)))
            | with_reducible refine ifP ?_
            | with_reducible refine ifN ?_) <;> (try dsimp only))
          all_goals first
            | (refine ⟨i + 1, _, ⟨hlt_i, by simp_all⟩, by omega, ?_, rfl, ?_, ?_⟩; (focus ((repeat' (first | exact Wk.nil | refine Wk.any ?_ | (with_reducible refine Wk.same ?_) | refine Wk.of ?_ ?_)) <;> (simp_all))); (focus (exact fitsA)); (focus (exact FitsM.nil _)))
    · have e_i : i = (arnd l).length := by omega
      have hti := lt_false (f := TSegment.en) (show ¬ i < (arnd l).length by omega)
      subst e_i
      repeat' ((first
        | (refine iAL ?_; first | refine AL.any ?_ | refine AL.any (h := POp.k Tryz.func248 (hc := arnd_i _ (by assumption))) ?_ | refine AL.any (h := POp.k Tryz.func249 (hc := isSeg_i x)) ?_ | refine AL.U ?_ | refine AL.F ?_ | refine AL.T ?_ | refine AL.W ?_ | refine AL.nil ?_)
        | ((with_reducible show DL ..); first | refine DL.any ?_ | refine DL.any (h := POp.k Tryz.func247 (hc := meet_i x y)) ?_ | refine DL.nil ?_)
        | (refine iAW ?_; first | (refine AW.c0 ?_; constructor) | refine AW.dr (id := 15) 10 ?_ | refine AW.cT ?_ | refine AW.cF ?_ | (refine AW.c2 ?_ ?_ <;> (intro h; try simp only [bT, bF] at h)))
        | with_reducible refine ifP ?_
        | with_reducible refine ifN ?_) <;> (try dsimp only))
      all_goals first
        | exact Fin.one rfl (RV.tmp (by rfl)) (clo_c _) ⟨by first | (simp_all [isRing]; done) | (simp_all [isRing, inr] <;> omega), rfl⟩

theorem ringSegs_i (l : List TPoint) (hl : l.length ≤ 1048576) : VCalls Tryz.prog 251 [.ro 2 (l.map TPoint.en)] (fun r M => r = .ro 4 ((ringSegs l).map TSegment.en) ∧ M = []) := by
  refine VB Tryz.func251 8 (fun E hE => ?_)
  have hclo : Clo (.ro 2 (l.map TPoint.en)) := clo_list TPoint.clo_en
  have hclA : Clo (.ro 4 ((arnd l).map TSegment.en)) := clo_list TSegment.clo_en
  have hal := arnd_len l
  repeat' ((first
    | (refine iAL ?_; first | refine AL.any ?_ | refine AL.any (h := POp.k Tryz.func182 (hc := isRing_i _ (by assumption))) ?_ | refine AL.any (h := POp.k Tryz.func248 (hc := arnd_i _ (by assumption))) ?_ | refine AL.nil ?_)
    | (refine iAW ?_; first | (refine AW.freezeRet (t := 2) (id := 0) rfl rfl rfl rfl clo_rows_nil ?_; (try simp only [List.take_length]); try dsimp only [dput, List.set, cond_true, cond_false, Nat.zero_add, Nat.add_zero, Nat.reduceAdd, splice, List.take, List.drop, List.length, List.nil_append, List.cons_append, List.append, TPoint.en, TSegment.en, TBox.en, TFeature.en, TMeet.en, TPlace.en, TCover.en, TLabel.en, TPiece.en, TLevel.en, TChart.en, TReason.en, TEdit.en, TEntry.en, TEdition.en, TListing.en, TAtlas.en, TEvent.en, TWindow.en]) | (refine AW.c0 ?_; constructor) | refine AW.cT ?_ | refine AW.cF ?_ | (refine AW.c2 ?_ ?_ <;> (intro h; try simp only [bT, bF] at h)))) <;> (try dsimp only))
  all_goals first | exact Fin.one rfl (RV.tmp (by rfl)) (Clo.ro fun r hr => by simp at hr) ⟨by rw [ringSegs_f (by assumption)]; rfl, rfl⟩ | exact Fin.one rfl (RV.tmp (by rfl)) (clo_list TSegment.clo_en) ⟨by rw [ringSegs_t (by assumption)], rfl⟩

theorem twice_s (l : List TPoint) (hl : l.length ≤ 1048576) : VCalls Tryz.prog 336 [.ro 2 (l.map TPoint.en)] (fun r M => r = I (twice l) ∧ M = []) := by
  refine VB Tryz.func336 47 (fun E hE => ?_)
  have hclo : Clo (.ro 2 (l.map TPoint.en)) := clo_list TPoint.clo_en
  have hclA : Clo (.ro 4 ((arnd l).map TSegment.en)) := clo_list TSegment.clo_en
  have hal := arnd_len l
  have hclR : Clo (.ro 4 ((ringSegs l).map TSegment.en)) := clo_list TSegment.clo_en
  have hrl := ringSegs_le l
  repeat' ((first
    | (refine iAL ?_; first | refine AL.any ?_ | refine AL.any (h := POp.k Tryz.func239 (hc := arnd_s _ (by assumption))) ?_ | refine AL.U ?_ | refine AL.F ?_ | refine AL.T ?_ | refine AL.T (h := POp.k Tryz.func172 (hc := isRing_s _ (by assumption))) ?_ | refine AL.W ?_ | refine AL.W (h := fun h => by (try rw [h]); exact POp.k Tryz.func172 (hc := isRing_s _ (by assumption))) ?_ | refine AL.nil ?_)
    | ((with_reducible show DL ..); first | refine DL.any ?_ | refine DL.nil ?_)
    | (refine iAW ?_; first | (refine AW.c0 ?_; constructor) | refine AW.dr (id := 6) 28 ?_ | refine AW.cT ?_ | refine AW.cF ?_ | (refine AW.c2 ?_ ?_ <;> (intro h; try simp only [bT, bF] at h)))
    | (refine AW.loopD hE (fun i : Nat => [.ro 2 (l.map TPoint.en), .any, .any, I (accF twS (ringSegs l) i), .ro 4 ((arnd l).map TSegment.en), I (i : Int), .any, .any, .any, .any, .any, .any, .any, .any, .any, .any, .any, .any, .any, .any, .any, .any, .any, .any, .any, .any, .any, .any, .any, .any, .any, .any, .any, .any, .any, .any, .any, .any, .any, .any, .any, .any, .any, .any, .any, .any, .any, .any]) (fun i => []) (fun i => (ringSegs l).length - i) (fun i => i ≤ (ringSegs l).length) 0 (Nat.zero_le _) ?_ (by first | rfl | (simp [fil_zero]; done)) ?_
       (focus ((repeat' (first | exact Wk.nil | refine Wk.any ?_ | (with_reducible refine Wk.same ?_) | refine Wk.of ?_ ?_)) <;> first | rfl | (simp_all [accF])))
       intro i hi
       by_cases hlt : i < (ringSegs l).length
       case' pos =>
         have hP := True.intro
         obtain ⟨x, hx⟩ : ∃ x, (ringSegs l)[i]? = some x := ⟨_, List.getElem?_eq_getElem hlt⟩
         have hR : isRing l = true := by
           cases hR : isRing l
           · rw [ringSegs_f hR] at hlt; simp at hlt
           · rfl
         have ht : (decide ((i : Int) < (((arnd l).map TSegment.en).length : Int)) && isRing l) = true := by rw [ringSegs_t hR] at hlt; rw [hR]; simp; omega
         have hac := accF_succ (f := twS) hx
         rw [ringSegs_t hR] at hx
         have hn := next_ix hlt (by omega)
         have hg := map_get (f := TSegment.en) hx
       case' neg =>
         have hQ := True.intro
         have e : i = (ringSegs l).length := by omega
         have ht : (decide ((i : Int) < (((arnd l).map TSegment.en).length : Int)) && isRing l) = false := by
           cases hR : isRing l
           · simp
           · rw [e, ringSegs_t hR]; simp
         subst e)
    | with_reducible refine ifP ?_
    | with_reducible refine ifN ?_) <;> (try dsimp only))
  all_goals first
    | (have _ := hP; (refine ⟨i + 1, _, hlt, by omega, ?_, rfl, ?_, ?_⟩; (focus (exact wkN)); (focus (exact fitsA)); (focus (exact FitsM.nil _))))
    | (have _ := hQ; exact Fin.one rfl (RV.tmp (by rfl)) (clo_c _) ⟨by rw [accF_all]; rfl, rfl⟩)

theorem twice_i (l : List TPoint) (hl : l.length ≤ 1048576) : VCalls Tryz.prog 329 [.ro 2 (l.map TPoint.en)] (fun r M => r = I (twice l) ∧ M = []) := by
  refine VB Tryz.func329 31 (fun E hE => ?_)
  have hclo : Clo (.ro 2 (l.map TPoint.en)) := clo_list TPoint.clo_en
  have hclA : Clo (.ro 4 ((arnd l).map TSegment.en)) := clo_list TSegment.clo_en
  have hal := arnd_len l
  have hclR : Clo (.ro 4 ((ringSegs l).map TSegment.en)) := clo_list TSegment.clo_en
  have hrl := ringSegs_le l
  repeat' ((first
    | (refine iAL ?_; first | refine AL.any ?_ | refine AL.any (h := POp.k Tryz.func251 (hc := ringSegs_i _ (by assumption))) ?_ | refine AL.nil ?_)
    | (refine iAW ?_; first | (refine AW.c0 ?_; constructor) | refine AW.cT ?_ | refine AW.cF ?_ | (refine AW.c2 ?_ ?_ <;> (intro h; try simp only [bT, bF] at h)))
    | (refine AW.loopD hE (fun i : Nat => [.ro 2 (l.map TPoint.en), .any, .any, I (accF twI (ringSegs l) i), .any, .any, .any, .ro 4 ((ringSegs l).map TSegment.en), I (((ringSegs l).map TSegment.en).length : Int), I (i : Int), .any, .any, .any, .any, .any, .any, .any, .any, .any, .any, .any, .any, .any, .any, .any, .any, .any, .any, .any, .any, .any, .any]) (fun i => []) (fun i => (ringSegs l).length - i) (fun i => i ≤ (ringSegs l).length) 0 (by simp) ?_ (by first | rfl | (simp [fil_zero]; done)) ?_
       (focus ((repeat' (first | exact Wk.nil | refine Wk.any ?_ | (with_reducible refine Wk.same ?_) | refine Wk.of ?_ ?_)) <;> first | rfl | (simp_all [accF])))
       intro i hi
       by_cases hlt : i < (ringSegs l).length
       case' pos =>
         have hP := True.intro
         obtain ⟨x, hx⟩ : ∃ x, (ringSegs l)[i]? = some x := ⟨_, List.getElem?_eq_getElem hlt⟩
         have hg := map_get (f := TSegment.en) hx
         have ht := lt_true (f := TSegment.en) hlt
         have hn := next_ix hlt (by omega)
         have hac := accF_succ (f := twI) hx
       case' neg =>
         have hQ := True.intro
         have ht := lt_false (f := TSegment.en) hlt
         have e : i = (ringSegs l).length := by omega
         subst e
         try rw [List.take_length])
    | with_reducible refine ifP ?_
    | with_reducible refine ifN ?_) <;> (try dsimp only))
  all_goals first
    | (have _ := hP; (refine ⟨i + 1, _, hlt, by omega, ?_, rfl, ?_, ?_⟩; (focus (exact wkN)); (focus (exact fitsA)); (focus (exact FitsM.nil _))))
    | (have _ := hQ; exact Fin.one rfl (RV.tmp (by rfl)) (clo_c _) ⟨by rw [accF_all, tw_fun]; rfl, rfl⟩)

end Go.Proofs.YtpffahmmklpifaaGreat.Abs

/- A ring's area is not nought: plain. -/
namespace Go.Proofs.YtpffahmmklpifaaGreat.Abs
open Go.Proofs Go.RowKit
set_option linter.unusedVariables false
set_option linter.unusedSimpArgs false
set_option maxRecDepth 100000
set_option maxHeartbeats 2000000
attribute [local irreducible] OpA AL AW DL DLM DLR DLS QOp POp VCalls VCallsI
set_option maxHeartbeats 2000000
theorem aff_pos {α β m M h : Int} (h1 : 0 ≤ α * m + β) (h2 : 0 ≤ α * M + β) (hs : 0 < α * m + β ∨ m < h) (ht : 0 < α * M + β ∨ h < M) (hn : 0 < α * m + β ∨ 0 < α * M + β) (hm : m ≤ h) (hM : h ≤ M) : 0 < α * h + β := by
  rcases Int.le_total 0 α with ha | ha
  · have e1 := Int.mul_le_mul_of_nonneg_left hm ha
    have e2 := Int.mul_le_mul_of_nonneg_left hM ha
    rcases hs with hs | hs
    · omega
    · rcases Int.lt_or_eq_of_le ha with hp | hp
      · have := Int.mul_lt_mul_of_pos_left hs hp
        omega
      · subst hp; simp at *; omega
  · have e1 := Int.mul_le_mul_of_nonpos_left ha hm
    have e2 := Int.mul_le_mul_of_nonpos_left ha hM
    rcases ht with ht | ht
    · omega
    · rcases Int.lt_or_eq_of_le ha with hp | hp
      · have := Int.mul_lt_mul_of_neg_left ht hp
        omega
      · subst hp; simp at *; omega

def SN (f : Nat → Nat) : Nat → Nat
  | 0 => 0
  | n + 1 => SN f n + f n
def SI (f : Nat → Int) : Nat → Int
  | 0 => 0
  | n + 1 => SI f n + f n
theorem SN_congr {f g : Nat → Nat} : ∀ {n : Nat}, (∀ i, i < n → f i = g i) → SN f n = SN g n
  | 0, _ => rfl
  | n + 1, h => by rw [SN, SN, SN_congr fun i hi => h i (by omega), h n (by omega)]
theorem SI_congr {f g : Nat → Int} : ∀ {n : Nat}, (∀ i, i < n → f i = g i) → SI f n = SI g n
  | 0, _ => rfl
  | n + 1, h => by rw [SI, SI, SI_congr fun i hi => h i (by omega), h n (by omega)]
theorem SN_add (f g : Nat → Nat) : ∀ n, SN (fun i => f i + g i) n = SN f n + SN g n
  | 0 => rfl
  | n + 1 => by rw [SN, SN, SN, SN_add f g n]; omega
theorem SI_add (f g : Nat → Int) : ∀ n, SI (fun i => f i + g i) n = SI f n + SI g n
  | 0 => rfl
  | n + 1 => by rw [SI, SI, SI, SI_add f g n]; omega
theorem SN_one (g c : Nat) : ∀ n, SN (fun i => if i = g then c else 0) n = if g < n then c else 0
  | 0 => by simp [SN]
  | n + 1 => by
    rw [SN, SN_one g c n]
    by_cases h : n = g
    · subst h; simp
    · rw [if_neg h]
      by_cases h2 : g < n
      · rw [if_pos h2, if_pos (by omega), Nat.add_zero]
      · rw [if_neg h2, if_neg (by omega)]
theorem SN_even {f : Nat → Nat} : ∀ {n : Nat}, (∀ i, i < n → f i % 2 = 0) → SN f n % 2 = 0
  | 0, _ => rfl
  | n + 1, h => by
    have h1 := SN_even (f := f) (n := n) fun i hi => h i (by omega)
    have h2 := h n (by omega)
    rw [SN]
    omega
theorem SN_two' {f : Nat → Nat} {n g v : Nat} (hg : g < n) (hv : v < n) (hne : g ≠ v) (h : ∀ i, i < n → i ≠ g → i ≠ v → f i % 2 = 0) : SN f n % 2 = (f g + f v) % 2 := by
  have e : SN (fun i => (if i = g ∨ i = v then 0 else f i) + ((if i = g then f g else 0) + (if i = v then f v else 0))) n = SN f n := SN_congr fun i _ => by
    by_cases h1 : i = g
    · subst h1; simp [hne]
    · by_cases h2 : i = v
      · subst h2; simp [h1]
      · simp [h1, h2]
  rw [← e, SN_add, SN_add, SN_one, SN_one, if_pos hg, if_pos hv]
  have h0 : SN (fun i => if i = g ∨ i = v then 0 else f i) n % 2 = 0 := SN_even fun i hi => by
    by_cases h1 : i = g ∨ i = v
    · rw [if_pos h1]
    · rw [if_neg h1]; exact h i hi (fun e => h1 (.inl e)) (fun e => h1 (.inr e))
  omega
theorem SN_two {f : Nat → Nat} {n g v : Nat} (hg : g < n) (hv : v < n) (hne : g ≠ v) (h : ∀ i, i < n → i ≠ g → i ≠ v → f i % 2 = 0) (hgv : (f g + f v) % 2 = 0) : SN f n % 2 = 0 := (SN_two' hg hv hne h).trans hgv
def b2n (b : Bool) : Nat := if b then 1 else 0
def nx (n i : Nat) : Nat := (i + 1) % n
def pv (n i : Nat) : Nat := (i + n - 1) % n
theorem nx_lt {n i : Nat} (h : 0 < n) : nx n i < n := Nat.mod_lt _ h
theorem pv_lt {n i : Nat} (h : 0 < n) : pv n i < n := Nat.mod_lt _ h
theorem nx_eq {n i : Nat} (h : i < n) : nx n i = if i + 1 = n then 0 else i + 1 := by
  unfold nx
  split
  · rename_i e; rw [e]; exact Nat.mod_self n
  · exact Nat.mod_eq_of_lt (by omega)
theorem pv_eq {n i : Nat} (h : i < n) : pv n i = if i = 0 then n - 1 else i - 1 := by
  unfold pv
  split
  · rename_i e; subst e; rw [Nat.zero_add]; exact Nat.mod_eq_of_lt (by omega)
  · rw [show i + n - 1 = (i - 1) + n by omega, Nat.add_mod_right]; exact Nat.mod_eq_of_lt (by omega)
theorem nx_pv {n i : Nat} (h : i < n) : nx n (pv n i) = i := by
  have h1 := pv_lt (n := n) (i := i) (by omega)
  rw [nx_eq h1, pv_eq h]
  split <;> split <;> omega
theorem pv_nx {n i : Nat} (h : i < n) : pv n (nx n i) = i := by
  have h1 := nx_lt (n := n) (i := i) (by omega)
  rw [pv_eq h1, nx_eq h]
  split <;> split <;> omega
structure Ply (n : Nat) (t x A B : Nat → Int) : Prop where
  n3 : 3 ≤ n
  ev : ∀ i, i < n → t i % 2 = 0
  inj : ∀ i j, i < n → j < n → t i = t j → i = j
  at0 : ∀ i, i < n → A i * t i + B i = x i
  at1 : ∀ i, i < n → A i * t (nx n i) + B i = x (nx n i)
  sep : ∀ i j h k, i < n → j < n → i ≠ j → min (t i) (t (nx n i)) ≤ h → h ≤ max (t i) (t (nx n i)) → min (t j) (t (nx n j)) ≤ h → h ≤ max (t j) (t (nx n j)) →
    min (t i) (t (nx n i)) ≤ k → k ≤ max (t i) (t (nx n i)) → min (t j) (t (nx n j)) ≤ k → k ≤ max (t j) (t (nx n j)) →
    (j = nx n i → h ≠ t j ∧ k ≠ t j) → (i = nx n j → h ≠ t i ∧ k ≠ t i) → A i * h + B i ≠ A j * h + B j ∧ (A i * h + B i < A j * h + B j ↔ A i * k + B i < A j * k + B j)
section
variable {n : Nat} {t x A B : Nat → Int}
def cr (n : Nat) (t : Nat → Int) (i : Nat) (h : Int) : Bool := decide (min (t i) (t (nx n i)) < h) && decide (h < max (t i) (t (nx n i)))
def lf (n : Nat) (t A B : Nat → Int) (i j : Nat) (h : Int) : Bool := cr n t i h && decide (A i * h + B i < A j * h + B j)
def rk (n : Nat) (t A B : Nat → Int) (j : Nat) (h : Int) : Nat := SN (fun i => b2n (lf n t A B i j h)) n
theorem cr_iff {i : Nat} {h : Int} : cr n t i h = true ↔ min (t i) (t (nx n i)) < h ∧ h < max (t i) (t (nx n i)) := by simp [cr]
theorem lf_self (j : Nat) (h : Int) : lf n t A B j j h = false := by simp [lf]
theorem rk_step (P : Ply n t x A B) {j : Nat} {h : Int} (hj : j < n) (ho : h % 2 = 1) (h1 : cr n t j h = true) (h2 : cr n t j (h + 2) = true) : (rk n t A B j h + rk n t A B j (h + 2)) % 2 = 0 := by
  have hn := P.n3
  obtain ⟨a1, a2⟩ := cr_iff.1 h1
  obtain ⟨b1, b2⟩ := cr_iff.1 h2
  -- an edge without a corner at the height between
  have same : ∀ i, i < n → t i ≠ h + 1 → t (nx n i) ≠ h + 1 → (b2n (lf n t A B i j h) + b2n (lf n t A B i j (h + 2))) % 2 = 0 := fun i hi c1 c2 => by
    by_cases e : i = j
    · subst e; rw [lf_self, lf_self]; rfl
    have d1 := P.ev i hi
    have d2 := P.ev (nx n i) (nx_lt (by omega))
    have ec : cr n t i (h + 2) = cr n t i h := by
      unfold cr
      congr 1 <;> (apply decide_eq_decide.2; omega)
    unfold lf
    rw [ec]
    cases hc : cr n t i h
    · rfl
    · obtain ⟨c3, c4⟩ := cr_iff.1 hc
      obtain ⟨c5, c6⟩ := cr_iff.1 (ec.trans hc)
      have d3 := P.ev j hj
      have := (P.sep i j h (h + 2) hi hj e (by omega) (by omega) (by omega) (by omega) (by omega) (by omega) (by omega) (by omega) (fun _ => by omega) (fun _ => by omega)).2
      rw [decide_eq_decide.2 this]
      cases decide (A i * (h + 2) + B i < A j * (h + 2) + B j) <;> rfl
  unfold rk
  rw [← SN_add]
  by_cases hv : ∃ v, v < n ∧ t v = h + 1
  · obtain ⟨v, hv, ev⟩ := hv
    have hg := pv_lt (n := n) (i := v) (by omega)
    have hgv : nx n (pv n v) = v := nx_pv hv
    have hne : pv n v ≠ v := by rw [pv_eq hv]; split <;> omega
    -- the two edges at the corner
    have inc : ∀ i, i < n → (i = v ∨ nx n i = v) → b2n (lf n t A B i j h) + b2n (lf n t A B i j (h + 2)) = b2n (decide (x v < A j * (h + 1) + B j)) := fun i hi hiv => by
      have hjv : j ≠ v ∧ nx n j ≠ v := ⟨fun e => by subst e; omega, fun e => by rw [e] at a1 a2 b1 b2; omega⟩
      have e : i ≠ j := fun e => by subst e; rcases hiv with e | e; exact hjv.1 e; exact hjv.2 e
      have ht : A i * (h + 1) + B i = x v := by
        rcases hiv with rfl | e2
        · rw [← ev]; exact P.at0 i hi
        · rw [← ev, ← e2]; exact P.at1 i hi
      have hw : ∃ w, w < n ∧ w ≠ v ∧ ((i = v ∧ nx n i = w) ∨ (i = w ∧ nx n i = v)) := by
        have hnn : nx n i ≠ i := by rw [nx_eq hi]; split <;> omega
        rcases hiv with rfl | e2
        · exact ⟨nx n i, nx_lt (by omega), hnn, .inl ⟨rfl, rfl⟩⟩
        · exact ⟨i, hi, fun e3 => hnn (e2.trans e3.symm), .inr ⟨rfl, e2⟩⟩
      obtain ⟨w, hw, hwv, hww⟩ := hw
      have tw : t w ≠ h + 1 := fun e3 => hwv (P.inj w v hw hv (e3.trans ev.symm))
      have dw := P.ev w hw
      have mm : min (t i) (t (nx n i)) = min (h + 1) (t w) ∧ max (t i) (t (nx n i)) = max (h + 1) (t w) := by
        rcases hww with ⟨e1, e2⟩ | ⟨e1, e2⟩
        · rw [e2, e1, ev]; exact ⟨rfl, rfl⟩
        · rw [e2, e1, ev]; exact ⟨by omega, by omega⟩
      have d3 := P.ev j hj
      have sh1 : ∀ k : Int, j = nx n i → t j ≠ h + 1 → k = h + 1 ∨ (k ≠ t j) → k ≠ t j ∨ True := fun _ _ _ _ => .inr trivial
      have tj : t j ≠ h + 1 := fun e3 => hjv.1 (P.inj j v hj hv (e3.trans ev.symm))
      have tj2 : t (nx n j) ≠ h + 1 := fun e3 => hjv.2 (P.inj _ v (nx_lt (by omega)) hv (e3.trans ev.symm))
      have go : ∀ k : Int, cr n t i k = true → k = h ∨ k = h + 2 → (A i * k + B i < A j * k + B j ↔ x v < A j * (h + 1) + B j) := fun k hk hkk => by
        obtain ⟨q1, q2⟩ := cr_iff.1 hk
        rw [mm.1] at q1
        rw [mm.2] at q2
        have := (P.sep i j k (h + 1) hi hj e (by rw [mm.1]; omega) (by rw [mm.2]; omega) (by omega) (by omega) (by rw [mm.1]; omega) (by rw [mm.2]; omega) (by omega) (by omega) (fun _ => by omega) (fun e3 => by
          have d4 := P.ev i hi
          refine ⟨by omega, fun e4 => ?_⟩
          have := P.inj i v hi hv (e4.symm.trans ev.symm)
          exact hjv.2 (e3.symm.trans this))).2
        rw [ht] at this
        exact this
      unfold lf
      rcases Int.lt_or_gt_of_ne tw with hl | hl
      · -- below
        have c1 : cr n t i h = true := cr_iff.2 (by rw [mm.1, mm.2]; omega)
        have c2 : cr n t i (h + 2) = false := by
          cases hc : cr n t i (h + 2)
          · rfl
          · have := cr_iff.1 hc; rw [mm.1, mm.2] at this; omega
        rw [c1, c2, Bool.true_and, Bool.false_and, decide_eq_decide.2 (go h c1 (.inl rfl))]
        rfl
      · have c1 : cr n t i (h + 2) = true := cr_iff.2 (by rw [mm.1, mm.2]; omega)
        have c2 : cr n t i h = false := by
          cases hc : cr n t i h
          · rfl
          · have := cr_iff.1 hc; rw [mm.1, mm.2] at this; omega
        rw [c1, c2, Bool.true_and, Bool.false_and, decide_eq_decide.2 (go (h + 2) c1 (.inr rfl))]
        exact Nat.zero_add _
    refine SN_two hg hv hne (fun i hi h3 h4 => same i hi (fun e => h4 (P.inj i v hi hv (e.trans ev.symm))) (fun e => h3 ?_)) ?_
    · have := P.inj _ v (nx_lt (by omega)) hv (e.trans ev.symm)
      rw [← this, pv_nx hi]
    · rw [inc _ hg (.inr hgv), inc v hv (.inl rfl)]; omega
  · exact SN_even fun i hi => same i hi (fun e => hv ⟨i, hi, e⟩) (fun e => hv ⟨_, nx_lt (by omega), e⟩)
end

section
variable {n : Nat} {t x A B : Nat → Int}
theorem nx_ne {i : Nat} (hn : 3 ≤ n) (hi : i < n) : nx n i ≠ i := by rw [nx_eq hi]; split <;> omega
theorem nx_inj {i j : Nat} (hi : i < n) (hj : j < n) (h : nx n i = nx n j) : i = j := by
  rw [← pv_nx hi, ← pv_nx hj, h]
theorem cmp_at (P : Ply n t x A B) {e q v : Nat} {h : Int} (he : e < n) (hq : q < n) (hv : v < n) (hne : e ≠ q) (hqv : q = v ∨ nx n q = v) (c1 : e ≠ v) (c2 : nx n e ≠ v) (hh : h = t v - 1 ∨ h = t v + 1) (d1 : cr n t e h = true) (d2 : cr n t q h = true) :
    (A e * h + B e < A q * h + B q ↔ A e * t v + B e < x v) ∧ (A q * h + B q < A e * h + B e ↔ x v < A e * t v + B e) := by
  have hn := P.n3
  have n1 : t e ≠ t v := fun e' => c1 (P.inj e v he hv e')
  have n2 : t (nx n e) ≠ t v := fun e' => c2 (P.inj _ v (nx_lt (by omega)) hv e')
  have p1 := P.ev e he
  have p2 := P.ev (nx n e) (nx_lt (by omega))
  have p3 := P.ev q hq
  have p4 := P.ev v hv
  obtain ⟨a1, a2⟩ := cr_iff.1 d1
  obtain ⟨b1, b2⟩ := cr_iff.1 d2
  have hx : A q * t v + B q = x v := by
    rcases hqv with rfl | e2
    · exact P.at0 q hq
    · rw [← e2]; exact P.at1 q hq
  have tq : t q = t v ∨ t (nx n q) = t v := by
    rcases hqv with rfl | e2
    · exact .inl rfl
    · exact .inr (by rw [e2])
  have o1 : h ≠ t e ∧ t v ≠ t e := ⟨by omega, fun e' => n1 e'.symm⟩
  have o2 : q = nx n e → h ≠ t q ∧ t v ≠ t q := fun e' => ⟨by omega, fun e4 => by
    rcases hqv with e5 | e5
    · exact c2 (e'.symm.trans e5)
    · exact c2 (e'.symm.trans (P.inj q v hq hv e4.symm))⟩
  have key := P.sep e q h (t v) he hq hne (by omega) (by omega) (by omega) (by omega) (by omega) (by omega) (by omega) (by omega) (fun e' => by subst e'; exact o2 rfl) (fun _ => o1)
  have key2 := P.sep q e h (t v) hq he hne.symm (by omega) (by omega) (by omega) (by omega) (by omega) (by omega) (by omega) (by omega) (fun _ => o1) (fun e' => by subst e'; exact o2 rfl)
  rw [hx] at key key2
  exact ⟨key.2, key2.2⟩
theorem cr_same (P : Ply n t x A B) {e v : Nat} (he : e < n) (hv : v < n) (c1 : e ≠ v) (c2 : nx n e ≠ v) : cr n t e (t v - 1) = cr n t e (t v + 1) := by
  have hn := P.n3
  have n1 : t e ≠ t v := fun e' => c1 (P.inj e v he hv e')
  have n2 : t (nx n e) ≠ t v := fun e' => c2 (P.inj _ v (nx_lt (by omega)) hv e')
  have p1 := P.ev e he
  have p2 := P.ev (nx n e) (nx_lt (by omega))
  have p4 := P.ev v hv
  unfold cr
  congr 1 <;> (apply decide_eq_decide.2; omega)
def up (n : Nat) (t : Nat → Int) (i : Nat) : Bool := decide (t i < t (nx n i))
theorem adj (P : Ply n t x A B) {i : Nat} (hi : i < n) : ∃ h k, h % 2 = 1 ∧ k % 2 = 1 ∧ cr n t i h = true ∧ cr n t (nx n i) k = true ∧ (rk n t A B i h + b2n (up n t i)) % 2 = (rk n t A B (nx n i) k + b2n (up n t (nx n i))) % 2 := by
  have hn := P.n3
  obtain ⟨v, ev⟩ : ∃ v, v = nx n i := ⟨_, rfl⟩
  obtain ⟨w, ew⟩ : ∃ w, w = nx n v := ⟨_, rfl⟩
  rw [← ev]
  have hv : v < n := ev ▸ nx_lt (by omega)
  have hw : w < n := ew ▸ nx_lt (by omega)
  have hvi : v ≠ i := ev ▸ nx_ne hn hi
  have hwv : w ≠ v := ew ▸ nx_ne hn hv
  have p1 := P.ev i hi
  have p2 := P.ev v hv
  have p3 := P.ev w hw
  have n1 : t i ≠ t v := fun e => hvi (P.inj i v hi hv e).symm
  have n2 : t w ≠ t v := fun e => hwv (P.inj w v hw hv e)
  have ci : ∀ h, cr n t i h = true ↔ min (t i) (t v) < h ∧ h < max (t i) (t v) := fun h => by rw [cr_iff, ← ev]
  have cv : ∀ h, cr n t v h = true ↔ min (t v) (t w) < h ∧ h < max (t v) (t w) := fun h => by rw [cr_iff, ← ew]
  have ui : up n t i = decide (t i < t v) := by unfold up; rw [← ev]
  have uv : up n t v = decide (t v < t w) := by unfold up; rw [← ew]
  have oth : ∀ e, e < n → e ≠ i → e ≠ v → nx n e ≠ v := fun e he h1 _ h3 => h1 (nx_inj he hi (h3.trans ev))
  have no : ∀ (q : Nat) (h : Int), ¬ cr n t q h = true → cr n t q h = false := fun q h hh => by simpa using hh
  -- through
  have thr : ∀ h k : Int, (h = t v - 1 ∧ k = t v + 1 ∨ h = t v + 1 ∧ k = t v - 1) → cr n t i h = true → cr n t v k = true → cr n t i k = false → cr n t v h = false → rk n t A B i h = rk n t A B v k := fun h k hk d1 d2 d3 d4 => by
    unfold rk
    refine SN_congr fun e he => congrArg b2n ?_
    by_cases e1 : e = i
    · subst e1
      rw [lf_self]
      unfold lf
      rw [d3]
      rfl
    by_cases e2 : e = v
    · subst e2
      rw [lf_self]
      unfold lf
      rw [d4]
      rfl
    have e3 := oth e he e1 e2
    have cs := cr_same P he hv e2 e3
    have ce : cr n t e h = cr n t e k := by rcases hk with ⟨rfl, rfl⟩ | ⟨rfl, rfl⟩; exact cs; exact cs.symm
    unfold lf
    rw [ce]
    cases hc : cr n t e k
    · rfl
    · rw [Bool.true_and, Bool.true_and, decide_eq_decide]
      rw [(cmp_at P he hi hv e1 (.inr ev.symm) e2 e3 (by omega) (ce.trans hc) d1).1, (cmp_at P he hv hv e2 (.inl rfl) e2 e3 (by omega) hc d2).1]
  have trn : ∀ h : Int, (h = t v - 1 ∨ h = t v + 1) → h % 2 = 1 → cr n t i h = true → cr n t v h = true → (rk n t A B i h + rk n t A B v h) % 2 = 1 := fun h hk ho d1 d2 => by
    unfold rk
    rw [← SN_add, SN_two' hi hv hvi.symm]
    · rw [lf_self, lf_self]
      unfold lf
      rw [d1, d2]
      obtain ⟨a1, a2⟩ := (ci h).1 d1
      obtain ⟨b1, b2⟩ := (cv h).1 d2
      have q := (P.sep i v h h hi hv hvi.symm (by rw [← ev]; omega) (by rw [← ev]; omega) (by rw [← ew]; omega) (by rw [← ew]; omega) (by rw [← ev]; omega) (by rw [← ev]; omega) (by rw [← ew]; omega) (by rw [← ew]; omega) (fun _ => by omega) (fun _ => by omega)).1
      rcases Int.lt_or_gt_of_ne q with q | q
      · rw [decide_eq_true q, decide_eq_false (by omega)]; rfl
      · rw [decide_eq_true q, decide_eq_false (by omega)]; rfl
    · intro e he e1 e2
      have e3 := oth e he e1 e2
      unfold lf
      cases hc : cr n t e h
      · rfl
      · have q1 : decide (A e * h + B e < A i * h + B i) = decide (A e * t v + B e < x v) := decide_eq_decide.2 (cmp_at P he hi hv e1 (.inr ev.symm) e2 e3 (by omega) hc d1).1
        have q2 : decide (A e * h + B e < A v * h + B v) = decide (A e * t v + B e < x v) := decide_eq_decide.2 (cmp_at P he hv hv e2 (.inl rfl) e2 e3 (by omega) hc d2).1
        rw [Bool.true_and, Bool.true_and, q1, q2]
        omega
  rw [ui, uv]
  rcases Int.lt_or_gt_of_ne n1 with m1 | m1 <;> rcases Int.lt_or_gt_of_ne n2 with m2 | m2
  · -- a top
    have d1 := (ci (t v - 1)).2 (by omega)
    have d2 := (cv (t v - 1)).2 (by omega)
    refine ⟨t v - 1, t v - 1, by omega, by omega, d1, d2, ?_⟩
    have := trn _ (.inl rfl) (by omega) d1 d2
    rw [decide_eq_true m1, decide_eq_false (by omega)]
    simp only [b2n, if_true, Bool.false_eq_true, if_false]
    omega
  · have d1 := (ci (t v - 1)).2 (by omega)
    have d2 := (cv (t v + 1)).2 (by omega)
    refine ⟨t v - 1, t v + 1, by omega, by omega, d1, d2, ?_⟩
    rw [thr _ _ (.inl ⟨rfl, rfl⟩) d1 d2 (no _ _ fun h => by have := (ci _).1 h; omega) (no _ _ fun h => by have := (cv _).1 h; omega), decide_eq_true m1, decide_eq_true m2]
  · have d1 := (ci (t v + 1)).2 (by omega)
    have d2 := (cv (t v - 1)).2 (by omega)
    refine ⟨t v + 1, t v - 1, by omega, by omega, d1, d2, ?_⟩
    rw [thr _ _ (.inr ⟨rfl, rfl⟩) d1 d2 (no _ _ fun h => by have := (ci _).1 h; omega) (no _ _ fun h => by have := (cv _).1 h; omega), decide_eq_false (by omega), decide_eq_false (by omega)]
  · -- a bottom
    have d1 := (ci (t v + 1)).2 (by omega)
    have d2 := (cv (t v + 1)).2 (by omega)
    refine ⟨t v + 1, t v + 1, by omega, by omega, d1, d2, ?_⟩
    have := trn _ (.inr rfl) (by omega) d1 d2
    rw [decide_eq_false (by omega), decide_eq_true m2]
    simp only [b2n, if_true, Bool.false_eq_true, if_false]
    omega
theorem rk_up (P : Ply n t x A B) {j : Nat} {h : Int} (hj : j < n) (ho : h % 2 = 1) (h1 : cr n t j h = true) : ∀ m : Nat, cr n t j (h + 2 * m) = true → rk n t A B j (h + 2 * m) % 2 = rk n t A B j h % 2
  | 0, _ => by simp
  | m + 1, h2 => by
    obtain ⟨a1, a2⟩ := cr_iff.1 h1
    obtain ⟨b1, b2⟩ := cr_iff.1 h2
    have e : h + 2 * ((m + 1 : Nat) : Int) = h + 2 * (m : Int) + 2 := by omega
    have c : cr n t j (h + 2 * (m : Int)) = true := cr_iff.2 (by omega)
    rw [e] at h2 ⊢
    have := rk_step P hj (by omega) c h2
    have := rk_up P hj ho h1 m c
    omega
theorem rk_all (P : Ply n t x A B) {j : Nat} {h k : Int} (hj : j < n) (ho : h % 2 = 1) (ko : k % 2 = 1) (h1 : cr n t j h = true) (h2 : cr n t j k = true) : rk n t A B j h % 2 = rk n t A B j k % 2 := by
  rcases Int.le_total h k with hk | hk
  · have e : k = h + 2 * (((k - h) / 2).toNat : Int) := by omega
    rw [e] at h2 ⊢
    exact (rk_up P hj ho h1 _ h2).symm
  · have e : h = k + 2 * (((h - k) / 2).toNat : Int) := by omega
    rw [e] at h1 ⊢
    exact rk_up P hj ko h2 _ h1
theorem one_sign (P : Ply n t x A B) : ∃ c : Nat, ∀ i, i < n → ∀ h : Int, h % 2 = 1 → cr n t i h = true → (rk n t A B i h + b2n (up n t i)) % 2 = c := by
  have hn := P.n3
  obtain ⟨h0, k0, o0, _, d0, _, _⟩ := adj P (i := 0) (by omega)
  refine ⟨(rk n t A B 0 h0 + b2n (up n t 0)) % 2, fun i => ?_⟩
  induction i with
  | zero =>
    intro hi h ho hc
    have := rk_all P hi ho o0 hc d0
    omega
  | succ i ih =>
    intro hi h ho hc
    obtain ⟨h1, k1, o1, o2, d1, d2, e⟩ := adj P (i := i) (by omega)
    have en : nx n i = i + 1 := by rw [nx_eq (by omega), if_neg (by omega)]
    rw [en] at d2 e
    have := ih (by omega) h1 o1 d1
    have := rk_all P hi ho o2 hc d2
    omega
end

def ls : List Int → Int
  | [] => 0
  | a :: l => a + ls l
theorem ls_append : ∀ (l m : List Int), ls (l ++ m) = ls l + ls m
  | [], m => by simp [ls]
  | a :: l, m => by rw [List.cons_append, ls, ls, ls_append l m]; omega
theorem ls_perm {l m : List Int} (h : l.Perm m) : ls l = ls m := by
  induction h with
  | nil => rfl
  | cons a _ ih => rw [ls, ls, ih]
  | swap a b l => simp only [ls]; omega
  | trans _ _ i1 i2 => exact i1.trans i2
theorem ls_neg (g : Int → Int) : ∀ (l : List Int), ls (l.map fun v => -g v) = -ls (l.map g)
  | [] => rfl
  | a :: l => by rw [List.map_cons, List.map_cons, ls, ls, ls_neg g l]; omega
def psg (k : Nat) : Int := if k % 2 = 0 then 1 else -1
theorem psg_succ (k : Nat) : psg (k + 1) = -psg k := by
  unfold psg
  rcases Nat.mod_two_eq_zero_or_one k with h | h
  · rw [if_neg (by omega), if_pos h]
  · rw [if_pos (by omega), if_neg (by omega)]; rfl
def altL (f : Int → Int) (L : List Int) : Int := ls (L.map fun v => psg (L.countP fun u => decide (u < v)) * f v)
theorem altL_perm {f : Int → Int} {L M : List Int} (h : L.Perm M) : altL f L = altL f M := by
  unfold altL
  rw [ls_perm (h.map _)]
  congr 1
  refine List.map_congr_left fun v _ => ?_
  rw [h.countP_eq]
theorem altL_cons {f : Int → Int} {a : Int} {L : List Int} (h : (a :: L).Pairwise (· < ·)) : altL f (a :: L) = f a - altL f L := by
  obtain ⟨h1, h2⟩ := List.pairwise_cons.1 h
  have e0 : (a :: L).countP (fun u => decide (u < a)) = 0 := by
    rw [List.countP_eq_zero]
    intro u hu
    rcases List.mem_cons.1 hu with rfl | hu
    · simp
    · have := h1 u hu
      simp
      omega
  have e1 : ∀ v ∈ L, psg ((a :: L).countP fun u => decide (u < v)) * f v = -(psg (L.countP fun u => decide (u < v)) * f v) := fun v hv => by
    rw [List.countP_cons_of_pos (by simpa using h1 v hv), psg_succ, Int.neg_mul]
  have e2 : psg 0 * f a = f a := by simp [psg]
  unfold altL
  rw [List.map_cons, ls, e0, List.map_congr_left e1, ls_neg (fun v => psg (L.countP fun u => decide (u < v)) * f v), e2]
  omega
theorem alt_one : ∀ {L : List Int}, L.Pairwise (· < ·) → altL (fun _ => 1) L = ((L.length % 2 : Nat) : Int)
  | [], _ => rfl
  | a :: L, h => by
    rw [altL_cons h, alt_one (List.pairwise_cons.1 h).2, List.length_cons]
    omega
theorem alt_neg : ∀ {L : List Int}, L.Pairwise (· < ·) → L.length % 2 = 0 → altL (fun v => v) L ≤ 0 ∧ (L ≠ [] → altL (fun v => v) L < 0)
  | [], _, _ => ⟨by simp [altL, ls], fun h => absurd rfl h⟩
  | [a], _, h => by simp at h
  | a :: b :: L, h, hl => by
    obtain ⟨h1, h2⟩ := List.pairwise_cons.1 h
    have := h1 b (List.mem_cons_self)
    have := (alt_neg (List.pairwise_cons.1 h2).2 (by simp at hl; omega)).1
    have e : altL (fun v => v) (a :: b :: L) = a - (b - altL (fun v => v) L) := by rw [altL_cons h, altL_cons h2]
    rw [e]
    exact ⟨by omega, fun _ => by omega⟩
theorem sort_of {L : List Int} (h : L.Pairwise (· ≠ ·)) : ∃ M, L.Perm M ∧ M.Pairwise (· < ·) := by
  refine ⟨L.mergeSort (fun a b => decide (a ≤ b)), (List.mergeSort_perm L _).symm, ?_⟩
  have p1 := List.pairwise_mergeSort (le := fun a b : Int => decide (a ≤ b)) (fun a b c h1 h2 => by simp at *; omega) (fun a b => by simp; omega) L
  have p2 : (L.mergeSort (fun a b => decide (a ≤ b))).Pairwise (· ≠ ·) := ((List.mergeSort_perm L _).symm.pairwise_iff (fun h => Ne.symm h)).1 h
  refine (p1.and p2).imp fun h => ?_
  have := h.1
  have := h.2
  simp at *
  omega
theorem alt_even {L : List Int} (h : L.Pairwise (· ≠ ·)) (h1 : altL (fun _ => 1) L = 0) : altL (fun v => v) L ≤ 0 ∧ (L ≠ [] → altL (fun v => v) L < 0) := by
  obtain ⟨M, p, hM⟩ := sort_of h
  rw [altL_perm p, alt_one hM] at h1
  rw [altL_perm p]
  have := alt_neg hM (by omega)
  refine ⟨this.1, fun hn => this.2 fun e => hn ?_⟩
  subst e
  exact List.eq_nil_of_length_eq_zero p.length_eq
theorem SI_cyc (F : Nat → Int) {n : Nat} (hn : 0 < n) : SI (fun i => F (nx n i)) n = SI F n := by
  obtain ⟨m, rfl⟩ : ∃ m, n = m + 1 := ⟨n - 1, by omega⟩
  have sh : ∀ k, SI (fun i => F (i + 1)) k + F 0 = SI F (k + 1) := fun k => by
    induction k with
    | zero => rfl
    | succ k ih => rw [SI, SI, ← ih]; omega
  rw [← sh m, SI]
  congr 1
  · exact SI_congr fun i hi => by rw [nx_eq (by omega), if_neg (by omega)]
  · rw [nx_eq (by omega), if_pos rfl]
theorem SI_sub (f g : Nat → Int) : ∀ n, SI (fun i => f i - g i) n = SI f n - SI g n
  | 0 => rfl
  | n + 1 => by rw [SI, SI, SI, SI_sub f g n]; omega
theorem SI_mul (c : Int) (f : Nat → Int) : ∀ n, SI (fun i => c * f i) n = c * SI f n
  | 0 => by simp [SI]
  | n + 1 => by rw [SI, SI, SI_mul c f n, Int.mul_add]
theorem SI_swap (f : Nat → Nat → Int) (n : Nat) : ∀ K, SI (fun i => SI (fun k => f i k) K) n = SI (fun k => SI (fun i => f i k) n) K
  | 0 => by
    simp only [SI]
    induction n with
    | zero => rfl
    | succ n ih => rw [SI, ih]; rfl
  | K + 1 => by
    rw [SI, ← SI_swap f n K, ← SI_add]
    rfl
theorem SI_filter (c : Nat → Bool) (g : Nat → Int) : ∀ n, SI (fun i => if c i then g i else 0) n = ls (((List.range n).filter c).map g)
  | 0 => rfl
  | n + 1 => by
    rw [SI, SI_filter c g n, List.range_succ, List.filter_append, List.map_append, ls_append]
    cases h : c n <;> simp [h, ls]
theorem SN_filter (c : Nat → Bool) (g : Nat → Int) (v : Int) : ∀ n, SN (fun i => b2n (c i && decide (g i < v))) n = (((List.range n).filter c).map g).countP fun u => decide (u < v)
  | 0 => rfl
  | n + 1 => by
    rw [SN, SN_filter c g v n, List.range_succ, List.filter_append, List.map_append, List.countP_append]
    cases h : c n
    · simp [h, b2n]
    · by_cases h2 : g n < v <;> simp [h, b2n, h2]

section
variable {n : Nat} {t x A B : Nat → Int}
def dirI (n : Nat) (t : Nat → Int) (i : Nat) : Int := if up n t i then 1 else -1
def slab (n : Nat) (t A B : Nat → Int) (H : Int) : Int := SI (fun i => if cr n t i H then dirI n t i * (A i * H + B i) else 0) n
theorem dir_even (P : Ply n t x A B) {H : Int} (ho : H % 2 = 1) : SI (fun i => if cr n t i H then dirI n t i else 0) n = 0 := by
  have hn := P.n3
  have e : SI (fun i => if cr n t i H then dirI n t i else 0) n = SI (fun i => (fun j => if H < t j then (1 : Int) else 0) (nx n i) - (fun j => if H < t j then (1 : Int) else 0) i) n := SI_congr fun i hi => by
    have p1 := P.ev i hi
    have p2 := P.ev (nx n i) (nx_lt (by omega))
    unfold dirI up
    cases hc : cr n t i H
    · have : ¬ (min (t i) (t (nx n i)) < H ∧ H < max (t i) (t (nx n i))) := fun h => by rw [← cr_iff, hc] at h; cases h
      simp only [Bool.false_eq_true, if_false]
      by_cases h1 : H < t i
      · rw [if_pos h1, if_pos (by omega)]; rfl
      · rw [if_neg h1, if_neg (by omega)]; rfl
    · obtain ⟨h1, h2⟩ := cr_iff.1 hc
      simp only [if_true, decide_eq_true_eq]
      by_cases h3 : t i < t (nx n i)
      · rw [if_pos h3, if_pos (by omega), if_neg (by omega)]; rfl
      · rw [if_neg h3, if_neg (by omega), if_pos (by omega)]; rfl
  rw [e, SI_sub, SI_cyc (fun j => if H < t j then (1 : Int) else 0) (by omega)]
  omega
theorem slab_sign (P : Ply n t x A B) : ∃ ε : Int, (ε = 1 ∨ ε = -1) ∧ ∀ H : Int, H % 2 = 1 → slab n t A B H * ε ≤ 0 ∧ ((∃ i, i < n ∧ cr n t i H = true) → slab n t A B H * ε < 0) := by
  obtain ⟨c, hc⟩ := one_sign P
  refine ⟨if c = 0 then -1 else 1, by split <;> simp, fun H ho => ?_⟩
  obtain ⟨ε, hε⟩ : ∃ ε : Int, ε = if c = 0 then -1 else 1 := ⟨_, rfl⟩
  rw [← hε]
  have hd : ∀ i, i < n → cr n t i H = true → dirI n t i = ε * psg (rk n t A B i H) := fun i hi h1 => by
    have := hc i hi H ho h1
    rw [hε]
    unfold dirI psg
    cases hu : up n t i <;> rw [hu] at this <;> simp only [b2n, if_true, Bool.false_eq_true, if_false] at this ⊢ <;> split <;> split <;> omega
  have er : ∀ j, rk n t A B j H = (((List.range n).filter fun i => cr n t i H).map fun i => A i * H + B i).countP fun u => decide (u < A j * H + B j) := fun j => SN_filter (fun i => cr n t i H) (fun i => A i * H + B i) _ n
  obtain ⟨L, hL⟩ : ∃ L, L = ((List.range n).filter fun i => cr n t i H).map fun i => A i * H + B i := ⟨_, rfl⟩
  have gen : ∀ f : Int → Int, SI (fun i => if cr n t i H then dirI n t i * f (A i * H + B i) else 0) n = ε * altL f L := fun f => by
    have e1 : SI (fun i => if cr n t i H then dirI n t i * f (A i * H + B i) else 0) n = SI (fun i => ε * (if cr n t i H then psg (rk n t A B i H) * f (A i * H + B i) else 0)) n := SI_congr fun i hi => by
      cases h1 : cr n t i H
      · simp
      · simp only [if_true]
        rw [hd i hi h1, Int.mul_assoc]
    rw [e1, SI_mul, SI_filter (fun i => cr n t i H) (fun i => psg (rk n t A B i H) * f (A i * H + B i))]
    congr 1
    unfold altL
    rw [hL, List.map_map]
    congr 1
    exact List.map_congr_left fun i _ => by rw [er i]; rfl
  have hp : L.Pairwise (· ≠ ·) := by
    rw [hL, List.pairwise_map]
    refine (List.pairwise_lt_range.filter _).imp_of_mem fun {a b} ha hb hab => ?_
    obtain ⟨a1, a2⟩ := List.mem_filter.1 ha
    obtain ⟨b1, b2⟩ := List.mem_filter.1 hb
    have a1 := List.mem_range.1 a1
    have b1 := List.mem_range.1 b1
    obtain ⟨a3, a4⟩ := cr_iff.1 a2
    obtain ⟨b3, b4⟩ := cr_iff.1 b2
    have p1 := P.ev a a1
    have p2 := P.ev b b1
    exact (P.sep a b H H a1 b1 (by omega) (by omega) (by omega) (by omega) (by omega) (by omega) (by omega) (by omega) (by omega) (fun _ => by omega) (fun _ => by omega)).1
  have z := gen fun _ => 1
  simp only [Int.mul_one] at z
  rw [dir_even P ho] at z
  have z2 : altL (fun _ => 1) L = 0 := by
    rcases Int.mul_eq_zero.1 z.symm with h | h
    · rw [hε] at h; split at h <;> omega
    · exact h
  obtain ⟨s1, s2⟩ := alt_even hp z2
  have es : slab n t A B H * ε = altL (fun v => v) L := by
    unfold slab
    rw [gen fun v => v, hε]
    split <;> simp [Int.neg_mul, Int.mul_neg]
  rw [es]
  refine ⟨s1, fun ⟨i, hi, hci⟩ => s2 fun e => ?_⟩
  have : (A i * H + B i) ∈ L := by rw [hL]; exact List.mem_map_of_mem (List.mem_filter.2 ⟨List.mem_range.2 hi, hci⟩)
  rw [e] at this
  cases this
theorem trap {α β a b lo : Int} (ha : a % 2 = 0) (hb : b % 2 = 0) (hl : lo % 2 = 0) (h1 : lo ≤ a) (h2 : a ≤ b) : ∀ K : Nat, ∀ c : Int, c = max a (min b (lo + 2 * (K : Int))) → 4 * SI (fun k => if a < lo + 2 * (k : Int) + 1 ∧ lo + 2 * (k : Int) + 1 < b then α * (lo + 2 * (k : Int) + 1) + β else 0) K = (α * a + β + (α * c + β)) * (c - a)
  | 0, c, hc => by
    have : c = a := by omega
    subst this
    simp [SI]
  | K + 1, c, hc => by
    have ih := trap (α := α) (β := β) ha hb hl h1 h2 K _ rfl
    rw [SI, Int.mul_add, ih]
    by_cases q1 : lo + 2 * (K : Int) < a
    · rw [if_neg (by omega), show max a (min b (lo + 2 * (K : Int))) = a by omega, show c = a by omega]
      omega
    · by_cases q2 : lo + 2 * (K : Int) < b
      · rw [if_pos (by omega), show max a (min b (lo + 2 * (K : Int))) = lo + 2 * (K : Int) by omega, show c = lo + 2 * (K : Int) + 2 by omega]
        generalize lo + 2 * (K : Int) = u
        grind
      · rw [if_neg (by omega), show max a (min b (lo + 2 * (K : Int))) = b by omega, show c = b by omega]
        omega
theorem edge_sum (P : Ply n t x A B) {i : Nat} (hi : i < n) {lo : Int} {K : Nat} (hl : lo % 2 = 0) (hb : ∀ i, i < n → lo ≤ t i ∧ t i ≤ lo + 2 * (K : Int)) :
    (x i + x (nx n i)) * (t (nx n i) - t i) = 4 * SI (fun k => if cr n t i (lo + 2 * (k : Int) + 1) then dirI n t i * (A i * (lo + 2 * (k : Int) + 1) + B i) else 0) K := by
  have hn := P.n3
  have hj := nx_lt (n := n) (i := i) (by omega)
  have p1 := P.ev i hi
  have p2 := P.ev _ hj
  have q1 := hb i hi
  have q2 := hb _ hj
  rw [← P.at0 i hi, ← P.at1 i hi]
  rcases Int.le_total (t i) (t (nx n i)) with h | h
  · have := trap (α := A i) (β := B i) p1 p2 hl q1.1 h K (t (nx n i)) (by omega)
    rw [← this]
    congr 1
    refine SI_congr fun k _ => ?_
    have hu : t i ≠ t (nx n i) → dirI n t i = 1 := fun hne => by unfold dirI up; rw [decide_eq_true (by omega)]; rfl
    by_cases hc : cr n t i (lo + 2 * (k : Int) + 1) = true
    · have := cr_iff.1 hc
      rw [if_pos (by omega), if_pos hc, hu (by omega), Int.one_mul]
    · rw [if_neg hc, if_neg (fun h2 => hc (cr_iff.2 (by omega)))]
  · have := trap (α := A i) (β := B i) p2 p1 hl q2.1 h K (t i) (by omega)
    have e : (A i * t i + B i + (A i * t (nx n i) + B i)) * (t (nx n i) - t i) = -((A i * t (nx n i) + B i + (A i * t i + B i)) * (t i - t (nx n i))) := by grind
    rw [e, ← this, ← Int.mul_neg, Int.neg_eq_neg_one_mul, ← SI_mul]
    congr 1
    refine SI_congr fun k _ => ?_
    have hu : t i ≠ t (nx n i) → dirI n t i = -1 := fun hne => by unfold dirI up; rw [decide_eq_false (by omega)]; rfl
    by_cases hc : cr n t i (lo + 2 * (k : Int) + 1) = true
    · have := cr_iff.1 hc
      rw [if_pos (by omega), if_pos hc, hu (by omega)]
    · rw [if_neg hc, if_neg (fun h2 => hc (cr_iff.2 (by omega)))]
      rfl
theorem bounded (f : Nat → Int) : ∀ n, ∃ M : Nat, ∀ i, i < n → -(M : Int) ≤ f i ∧ f i ≤ (M : Int)
  | 0 => ⟨0, fun i hi => by omega⟩
  | n + 1 => by
    obtain ⟨M, hM⟩ := bounded f n
    refine ⟨max M (f n).natAbs, fun i hi => ?_⟩
    by_cases e : i = n
    · subst e; omega
    · have := hM i (by omega); omega
theorem SI_neg_lt {f : Nat → Int} : ∀ {n : Nat}, (∀ i, i < n → f i ≤ 0) → SI f n ≤ 0 ∧ ((∃ i, i < n ∧ f i < 0) → SI f n < 0)
  | 0, _ => ⟨Int.le_refl _, fun ⟨i, hi, _⟩ => by omega⟩
  | n + 1, h => by
    have ih := SI_neg_lt (f := f) (n := n) fun i hi => h i (by omega)
    have hl := h n (by omega)
    rw [SI]
    refine ⟨by omega, fun ⟨i, hi, h1⟩ => ?_⟩
    by_cases e : i = n
    · subst e; omega
    · have := ih.2 ⟨i, by omega, h1⟩; omega
theorem area_ne (P : Ply n t x A B) : SI (fun i => (x i + x (nx n i)) * (t (nx n i) - t i)) n ≠ 0 := by
  have hn := P.n3
  obtain ⟨M, hM⟩ := bounded t n
  obtain ⟨ε, hε, hs⟩ := slab_sign P
  have hb : ∀ i, i < n → -2 * (M : Int) ≤ t i ∧ t i ≤ -2 * (M : Int) + 2 * ((2 * M : Nat) : Int) := fun i hi => by have := hM i hi; omega
  have e : SI (fun i => (x i + x (nx n i)) * (t (nx n i) - t i)) n = 4 * SI (fun k => slab n t A B (-2 * (M : Int) + 2 * (k : Int) + 1)) (2 * M) := by
    rw [SI_congr fun i hi => edge_sum P hi (by omega) hb, SI_mul, SI_swap]
    rfl
  rw [e]
  have neg := SI_neg_lt (f := fun k => ε * slab n t A B (-2 * (M : Int) + 2 * (k : Int) + 1)) (n := 2 * M) fun k _ => by
    have := (hs (-2 * (M : Int) + 2 * (k : Int) + 1) (by omega)).1
    rw [Int.mul_comm]
    exact this
  have ex : ∃ k, k < 2 * M ∧ ε * slab n t A B (-2 * (M : Int) + 2 * (k : Int) + 1) < 0 := by
    have h0 := hb 0 (by omega)
    have h1 := hb (nx n 0) (nx_lt (by omega))
    have p0 := P.ev 0 (by omega)
    have p1 := P.ev (nx n 0) (nx_lt (by omega))
    have ne : t 0 ≠ t (nx n 0) := fun e => nx_ne hn (by omega) (P.inj 0 _ (by omega) (nx_lt (by omega)) e).symm
    refine ⟨((min (t 0) (t (nx n 0)) + 2 * (M : Int)) / 2).toNat, by omega, ?_⟩
    have eh : -2 * (M : Int) + 2 * ((((min (t 0) (t (nx n 0)) + 2 * (M : Int)) / 2).toNat : Nat) : Int) + 1 = min (t 0) (t (nx n 0)) + 1 := by omega
    rw [eh, Int.mul_comm]
    exact (hs _ (by omega)).2 ⟨0, by omega, cr_iff.2 (by omega)⟩
  have := neg.2 ex
  rw [SI_mul] at this
  intro h
  have z : SI (fun k => slab n t A B (-2 * (M : Int) + 2 * (k : Int) + 1)) (2 * M) = 0 := by omega
  rw [z] at this
  simp at this
end

theorem aff_sign {α β m M h k : Int} (h1 : m ≤ h) (h2 : h ≤ M) (k1 : m ≤ k) (k2 : k ≤ M) (e : (0 ≤ α * m + β ∧ 0 ≤ α * M + β) ∨ (α * m + β ≤ 0 ∧ α * M + β ≤ 0)) (em : α * m + β ≠ 0 ∨ (m < h ∧ m < k)) (eM : α * M + β ≠ 0 ∨ (h < M ∧ k < M)) (en : α * m + β ≠ 0 ∨ α * M + β ≠ 0) : α * h + β ≠ 0 ∧ (α * h + β < 0 ↔ α * k + β < 0) := by
  rcases e with ⟨e1, e2⟩ | ⟨e1, e2⟩
  · have a := aff_pos e1 e2 (by omega) (by omega) (by omega) h1 h2
    have b := aff_pos e1 e2 (by omega) (by omega) (by omega) k1 k2
    omega
  · have n : ∀ u : Int, -α * u + -β = -(α * u + β) := fun u => by rw [Int.neg_mul]; omega
    have a := aff_pos (α := -α) (β := -β) (m := m) (M := M) (h := h) (by rw [n]; omega) (by rw [n]; omega) (by rw [n]; omega) (by rw [n]; omega) (by rw [n, n]; omega) h1 h2
    have b := aff_pos (α := -α) (β := -β) (m := m) (M := M) (h := k) (by rw [n]; omega) (by rw [n]; omega) (by rw [n]; omega) (by rw [n]; omega) (by rw [n, n]; omega) k1 k2
    rw [n] at a b
    omega
def tP (p : TPoint) : Int := 2 * (1000 * p.y + p.x)
theorem onS_of {a b p : TPoint} (hne : tP a ≠ tP b) (hc : crs a b p = 0) (hb : btw (tP a) (tP b) (tP p)) : onS a b p := by
  have hd : tP b - tP a ≠ 0 := by omega
  have hq : (0 ≤ tP p - tP a ∧ tP p - tP a ≤ tP b - tP a) ∨ (tP b - tP a ≤ tP p - tP a ∧ tP p - tP a ≤ 0) := by
    unfold btw at hb; omega
  have hc2 := hc
  unfold crs at hc2
  refine ⟨hc, ?_, ?_⟩
  · have := btw_scale (dx := b.x - a.x) (dy := tP b - tP a) (p := p.x - a.x) (q := tP p - tP a) (v := b.x - a.x) (w := tP b - tP a) hd (by unfold tP; grind) (by grind) hq
    unfold btw; omega
  · have := btw_scale (dx := b.y - a.y) (dy := tP b - tP a) (p := p.y - a.y) (q := tP p - tP a) (v := b.y - a.y) (w := tP b - tP a) hd (by unfold tP; grind) (by grind) hq
    unfold btw; omega
structure Edg (D : Int) (a b : TPoint) (A B : Int) : Prop where
  ne : tP a ≠ tP b
  e0 : A * tP a + B = D * a.x
  e1 : A * tP b + B = D * b.x
theorem Edg.key {D A B : Int} {a b : TPoint} (E : Edg D a b A B) (p : TPoint) : (tP b - tP a) * (A * tP p + B - D * p.x) = 2000 * D * crs a b p := by
  have h0 := E.e0
  have h1 := E.e1
  have hA : (tP b - tP a) * A = D * (b.x - a.x) := by grind
  have hB : B = D * a.x - A * tP a := by omega
  have e : (tP b - tP a) * (A * tP p + B - D * p.x) = (tP b - tP a) * A * (tP p - tP a) + (tP b - tP a) * D * (a.x - p.x) := by rw [hB]; grind
  rw [e, hA]
  unfold crs tP
  grind
theorem Edg.off {D A B : Int} {a b : TPoint} (E : Edg D a b A B) (hD : 0 < D) {p : TPoint} (hn : ¬ onS a b p) (hb : btw (tP a) (tP b) (tP p)) : A * tP p + B ≠ D * p.x := fun e => by
  have k := E.key p
  rw [e, Int.sub_self, Int.mul_zero] at k
  have hc : crs a b p = 0 := by
    rcases Int.mul_eq_zero.1 k.symm with h | h
    · omega
    · exact h
  exact hn (onS_of E.ne hc hb)
theorem sg_mul' {p q : Int} (h : p * q < 0) : sg p * sg q < 0 := by
  unfold sg
  rcases Int.lt_trichotomy p 0 with hp | hp | hp <;> rcases Int.lt_trichotomy q 0 with hq | hq | hq
  · have := Int.mul_pos_of_neg_of_neg hp hq; omega
  · subst hq; simp at h
  · rw [if_neg (by omega), if_pos hp, if_pos hq]; decide
  · subst hp; simp at h
  · subst hp; simp at h
  · subst hp; simp at h
  · rw [if_pos hp, if_neg (by omega), if_pos hq]; decide
  · subst hq; simp at h
  · have := Int.mul_pos hp hq; omega
theorem sgn_move {T E u v u' v' : Int} (hT : T ≠ 0) (hu : T * u = E * v) (hv : T * u' = E * v') (h : u * u' < 0) : v * v' < 0 := by
  have e : (T * T) * (u * u') = (E * E) * (v * v') := by
    rw [show (T * T) * (u * u') = (T * u) * (T * u') by grind, hu, hv]; grind
  have hTT : 0 < T * T := by
    rcases Int.lt_or_gt_of_ne hT with h | h
    · exact Int.mul_pos_of_neg_of_neg h h
    · exact Int.mul_pos h h
  have h1 : (T * T) * (u * u') < 0 := Int.mul_neg_of_pos_of_neg hTT h
  rw [e] at h1
  rcases Int.lt_or_le (v * v') 0 with h2 | h2
  · exact h2
  · have hE : 0 ≤ E * E := by
      rcases Int.le_total 0 E with h | h
      · exact Int.mul_nonneg h h
      · exact Int.mul_nonneg_of_nonpos_of_nonpos h h
    have := Int.mul_nonneg hE h2
    omega
theorem far {α β m M : Int} (hm : m ≤ M) (p1 : 0 < α * m + β) (p2 : α * M + β < 0) : (∀ u, u ≤ m → 0 < α * u + β) ∧ (∀ u, M ≤ u → α * u + β < 0) := by
  have hα : α < 0 := by
    rcases Int.lt_or_le α 0 with h | h
    · exact h
    · have := Int.mul_le_mul_of_nonneg_left hm h; omega
  exact ⟨fun u hu => by have := Int.mul_le_mul_of_nonpos_left (Int.le_of_lt hα) hu; omega, fun u hu => by have := Int.mul_le_mul_of_nonpos_left (Int.le_of_lt hα) hu; omega⟩
theorem no_change {α β m M : Int} (hm : m ≤ M) (em : α * m + β ≠ 0) (eM : α * M + β ≠ 0) (no : ¬ ∀ u v, u ≤ m → M ≤ v → (α * u + β) * (α * v + β) < 0) : (0 ≤ α * m + β ∧ 0 ≤ α * M + β) ∨ (α * m + β ≤ 0 ∧ α * M + β ≤ 0) := by
  rcases Int.lt_or_gt_of_ne em with s1 | s1 <;> rcases Int.lt_or_gt_of_ne eM with s2 | s2
  · right; omega
  · refine absurd (fun u v hu hv => ?_) no
    have n : ∀ u : Int, -α * u + -β = -(α * u + β) := fun u => by rw [Int.neg_mul]; omega
    obtain ⟨f1, f2⟩ := far (α := -α) (β := -β) hm (by rw [n]; omega) (by rw [n]; omega)
    have g1 := f1 u hu
    have g2 := f2 v hv
    rw [n] at g1 g2
    exact Int.mul_neg_of_neg_of_pos (by omega) (by omega)
  · refine absurd (fun u v hu hv => ?_) no
    obtain ⟨f1, f2⟩ := far hm s1 s2
    exact Int.mul_neg_of_pos_of_neg (f1 u hu) (f2 v hv)
  · left; omega
theorem Edg.apart {D A B A' B' : Int} {a b c d : TPoint} (E : Edg D a b A B) (G : Edg D c d A' B') (hD : 0 < D) (n1 : ¬ onS a b c) (n2 : ¬ onS a b d) (n3 : ¬ onS c d a) (n4 : ¬ onS c d b) (nx : crossB a b c d = false) {h k : Int}
    (h1 : max (min (tP a) (tP b)) (min (tP c) (tP d)) ≤ h) (h2 : h ≤ min (max (tP a) (tP b)) (max (tP c) (tP d))) (k1 : max (min (tP a) (tP b)) (min (tP c) (tP d)) ≤ k) (k2 : k ≤ min (max (tP a) (tP b)) (max (tP c) (tP d))) :
    (A - A') * h + (B - B') ≠ 0 ∧ ((A - A') * h + (B - B') < 0 ↔ (A - A') * k + (B - B') < 0) := by
  have hF : ∀ u, (A - A') * u + (B - B') = A * u + B - (A' * u + B') := fun u => by rw [Int.sub_mul]; omega
  have oc : btw (tP a) (tP b) (tP c) → (A - A') * tP c + (B - B') ≠ 0 := fun hb => by have := E.off hD n1 hb; rw [hF, G.e0]; omega
  have od : btw (tP a) (tP b) (tP d) → (A - A') * tP d + (B - B') ≠ 0 := fun hb => by have := E.off hD n2 hb; rw [hF, G.e1]; omega
  have oa : btw (tP c) (tP d) (tP a) → (A - A') * tP a + (B - B') ≠ 0 := fun hb => by have := G.off hD n3 hb; rw [hF, E.e0]; omega
  have ob : btw (tP c) (tP d) (tP b) → (A - A') * tP b + (B - B') ≠ 0 := fun hb => by have := G.off hD n4 hb; rw [hF, E.e1]; omega
  have ne1 := E.ne
  have ne2 := G.ne
  have kc := E.key c
  have kd := E.key d
  have ka := G.key a
  have kb := G.key b
  obtain ⟨m, hm⟩ : ∃ m, m = max (min (tP a) (tP b)) (min (tP c) (tP d)) := ⟨_, rfl⟩
  obtain ⟨M, hM⟩ : ∃ M, M = min (max (tP a) (tP b)) (max (tP c) (tP d)) := ⟨_, rfl⟩
  rw [← hm] at h1 k1
  rw [← hM] at h2 k2
  have end_ : ∀ u, (u = m ∨ u = M) → (A - A') * u + (B - B') ≠ 0 := fun u hu => by
    have : (u = tP a ∧ btw (tP c) (tP d) (tP a)) ∨ (u = tP b ∧ btw (tP c) (tP d) (tP b)) ∨ (u = tP c ∧ btw (tP a) (tP b) (tP c)) ∨ (u = tP d ∧ btw (tP a) (tP b) (tP d)) := by unfold btw; omega
    rcases this with ⟨rfl, hb⟩ | ⟨rfl, hb⟩ | ⟨rfl, hb⟩ | ⟨rfl, hb⟩
    · exact oa hb
    · exact ob hb
    · exact oc hb
    · exact od hb
  have em := end_ m (.inl rfl)
  have eM := end_ M (.inr rfl)
  -- a change of sign is a crossing
  have no : ∀ u v u' v' : Int, (u = tP a ∧ v = tP b ∨ u = tP b ∧ v = tP a) → (u' = tP c ∧ v' = tP d ∨ u' = tP d ∧ v' = tP c) → ((A - A') * u + (B - B')) * ((A - A') * v + (B - B')) < 0 → ((A - A') * u' + (B - B')) * ((A - A') * v' + (B - B')) < 0 → False := fun u v u' v' q1 q2 q3 q4 => by
    have q3 : ((A - A') * tP a + (B - B')) * ((A - A') * tP b + (B - B')) < 0 := by
      rcases q1 with ⟨rfl, rfl⟩ | ⟨rfl, rfl⟩
      · exact q3
      · rw [Int.mul_comm]; exact q3
    have q4 : ((A - A') * tP c + (B - B')) * ((A - A') * tP d + (B - B')) < 0 := by
      rcases q2 with ⟨rfl, rfl⟩ | ⟨rfl, rfl⟩
      · exact q4
      · rw [Int.mul_comm]; exact q4
    have w1 : crs a b c * crs a b d < 0 := sgn_move (T := tP b - tP a) (E := 2000 * D) (by omega) (by rw [hF, G.e0]; exact kc) (by rw [hF, G.e1]; exact kd) q4
    have w2 : crs c d a * crs c d b < 0 := sgn_move (T := tP c - tP d) (E := 2000 * D) (by omega) (by rw [hF, E.e0, ← ka]; grind) (by rw [hF, E.e1, ← kb]; grind) q3
    have : crossB a b c d = true := by
      unfold crossB
      rw [decide_eq_true (sg_mul' w1), decide_eq_true (sg_mul' w2)]
      rfl
    rw [nx] at this
    cases this
  have same := no_change (α := A - A') (β := B - B') (by omega : m ≤ M) em eM (fun w1 => no (min (tP a) (tP b)) (max (tP a) (tP b)) (min (tP c) (tP d)) (max (tP c) (tP d)) (by omega) (by omega) (w1 _ _ (by omega) (by omega)) (w1 _ _ (by omega) (by omega))) 
  exact aff_sign h1 h2 k1 k2 same (.inl em) (.inl eM) (.inl em)
theorem Edg.next {D A B A' B' : Int} {a b d : TPoint} (E : Edg D a b A B) (G : Edg D b d A' B') (hD : 0 < D) (n1 : ¬ onS a b d) (n2 : ¬ onS b d a) {h k : Int}
    (h1 : max (min (tP a) (tP b)) (min (tP b) (tP d)) ≤ h) (h2 : h ≤ min (max (tP a) (tP b)) (max (tP b) (tP d))) (k1 : max (min (tP a) (tP b)) (min (tP b) (tP d)) ≤ k) (k2 : k ≤ min (max (tP a) (tP b)) (max (tP b) (tP d))) (hh : h ≠ tP b) (hk : k ≠ tP b) :
    (A - A') * h + (B - B') ≠ 0 ∧ ((A - A') * h + (B - B') < 0 ↔ (A - A') * k + (B - B') < 0) := by
  have hF : ∀ u, (A - A') * u + (B - B') = A * u + B - (A' * u + B') := fun u => by rw [Int.sub_mul]; omega
  have od : btw (tP a) (tP b) (tP d) → (A - A') * tP d + (B - B') ≠ 0 := fun hb => by have := E.off hD n1 hb; rw [hF, G.e1]; omega
  have oa : btw (tP b) (tP d) (tP a) → (A - A') * tP a + (B - B') ≠ 0 := fun hb => by have := G.off hD n2 hb; rw [hF, E.e0]; omega
  have zb : (A - A') * tP b + (B - B') = 0 := by rw [hF, E.e1, G.e0]; omega
  have ne1 := E.ne
  have ne2 := G.ne
  rcases (by omega : (tP b < tP a ∧ tP b < tP d) ∨ (tP a < tP b ∧ tP d < tP b)) with ⟨g1, g2⟩ | ⟨g1, g2⟩
  · have eM : (A - A') * (min (tP a) (tP d)) + (B - B') ≠ 0 := by
      rcases Int.le_total (tP a) (tP d) with h | h
      · rw [show min (tP a) (tP d) = tP a by omega]; exact oa (.inl (by omega))
      · rw [show min (tP a) (tP d) = tP d by omega]; exact od (.inr (by omega))
    exact aff_sign (m := tP b) (M := min (tP a) (tP d)) (by omega) (by omega) (by omega) (by omega) (by omega) (.inr (by omega)) (.inl eM) (.inr eM)
  · have em : (A - A') * (max (tP a) (tP d)) + (B - B') ≠ 0 := by
      rcases Int.le_total (tP a) (tP d) with h | h
      · rw [show max (tP a) (tP d) = tP d by omega]; exact od (.inl (by omega))
      · rw [show max (tP a) (tP d) = tP a by omega]; exact oa (.inr (by omega))
    exact aff_sign (m := max (tP a) (tP d)) (M := tP b) (by omega) (by omega) (by omega) (by omega) (by omega) (.inl em) (.inr (by omega)) (.inl em)

theorem addE_len {on : Bool} {e : TPoint} {l : List TPoint} : l.length ≤ (addE on e l).length := by
  unfold addE; split <;> simp
theorem addE_on {on : Bool} {e : TPoint} {l : List TPoint} (h : on = true) : 1 ≤ (addE on e l).length := by
  subst h
  unfold addE
  split
  · simp
  · rename_i h
    cases l with
    | nil => simp at h
    | cons a l => simp
theorem meet_zero {a b c d : TPoint} (hab : a ≠ b) (hcd : c ≠ d) (h : meetI a b c d = 0) : ¬ onS a b c ∧ ¬ onS a b d ∧ ¬ onS c d a ∧ ¬ onS c d b ∧ crossB a b c d = false := by
  rw [← meet_eq hab hcd] at h
  have hz : (shrd a b c d).length = 0 := by
    unfold meetS at h
    split at h
    · assumption
    · split at h <;> omega
  unfold meetS at h
  rw [if_pos hz] at h
  unfold shrd at hz
  have l1 : (addE (onB c d a) a []).length ≤ _ := addE_len (on := onB c d b) (e := b)
  have l2 : (addE (onB c d b) b (addE (onB c d a) a [])).length ≤ _ := addE_len (on := onB a b c) (e := c)
  have l3 : (addE (onB a b c) c (addE (onB c d b) b (addE (onB c d a) a []))).length ≤ _ := addE_len (on := onB a b d) (e := d)
  refine ⟨fun hh => ?_, fun hh => ?_, fun hh => ?_, fun hh => ?_, ?_⟩
  · have : 1 ≤ (addE (onB a b c) c (addE (onB c d b) b (addE (onB c d a) a []))).length := addE_on (onB_iff.2 hh); omega
  · have : 1 ≤ (addE (onB a b d) d (addE (onB a b c) c (addE (onB c d b) b (addE (onB c d a) a [])))).length := addE_on (onB_iff.2 hh); omega
  · have : 1 ≤ (addE (onB c d a) a []).length := addE_on (onB_iff.2 hh); omega
  · have : 1 ≤ (addE (onB c d b) b (addE (onB c d a) a [])).length := addE_on (onB_iff.2 hh); omega
  · cases hc : crossB a b c d
    · rfl
    · rw [if_pos hc] at h; omega
theorem crs_cyc (a b c : TPoint) : crs a b c = crs b c a := by unfold crs; grind
theorem meet_next {a b d : TPoint} (hab : a ≠ b) (hbd : b ≠ d) (h : meetI a b b d = 1 ∨ meetI b d a b = 1) : ¬ onS a b d ∧ ¬ onS b d a := by
  have go : crs a b d = 0 → btw (plc a b b) (plc a b a) (plc a b d) ∨ btw (plc a b b) (plc a b d) (plc a b a) → meetI a b b d = 1 → False := fun hc hb h => by
    have n1 : plc a b a ≠ plc a b b := fun e => hab (plc_inj hab (crs_a a b) (crs_b a b) e)
    have n2 : plc a b b ≠ plc a b d := fun e => hbd (plc_inj hab (crs_b a b) hc e)
    rw [meetI_line hab hbd (crs_b a b) hc] at h
    unfold btw at hb
    split at h
    · omega
    · split at h <;> omega
  have go2 : crs b d a = 0 → btw (plc b d b) (plc b d a) (plc b d d) ∨ btw (plc b d b) (plc b d d) (plc b d a) → meetI b d a b = 1 → False := fun hc hb h => by
    have n1 : plc b d a ≠ plc b d b := fun e => hab (plc_inj hbd hc (crs_a b d) e)
    have n2 : plc b d b ≠ plc b d d := fun e => hbd (plc_inj hbd (crs_a b d) (crs_b b d) e)
    rw [meetI_line hbd hab hc (crs_a b d)] at h
    unfold btw at hb
    split at h
    · omega
    · split at h <;> omega
  have sw : ∀ {u v w : Int}, btw u v w → btw v u w := fun h => by unfold btw at *; omega
  refine ⟨fun hh => ?_, fun hh => ?_⟩
  · rcases h with h | h
    · exact go hh.1 (.inl (sw ((on_plc hab (crs_a a b) (crs_b a b) hh.1).1 (onB_iff.2 hh)))) h
    · have c2 : crs b d a = 0 := (crs_cyc a b d).symm.trans hh.1
      exact go2 c2 (.inl (sw ((on_plc hbd c2 (crs_a b d) (crs_b b d)).1 (onB_iff.2 hh)))) h
  · rcases h with h | h
    · have c2 : crs a b d = 0 := (crs_cyc a b d).trans hh.1
      exact go c2 (.inr ((on_plc hab (crs_b a b) c2 (crs_a a b)).1 (onB_iff.2 hh))) h
    · exact go2 hh.1 (.inr ((on_plc hbd (crs_a b d) (crs_b b d) hh.1).1 (onB_iff.2 hh))) h
def ptA (l : List TPoint) (i : Nat) : TPoint := l.getD i ⟨0, 0⟩
theorem sAt_pt {l : List TPoint} {i : Nat} (h : i < l.length) : sAt l i = ⟨ptA l i, ptA l (nx l.length i)⟩ := by
  obtain ⟨a, b, h1, h2, h3⟩ := arnd_get h
  rw [sAt_of h3]
  unfold ptA nx
  rw [List.getD_eq_getElem?_getD, List.getD_eq_getElem?_getD, h1, h2]
  rfl
theorem ring_edges {l : List TPoint} (h : isRing l = true) : 3 ≤ l.length ∧ (∀ i, i < l.length → isp (ptA l i).x (ptA l i).y = true ∧ ptA l i ≠ ptA l (nx l.length i)) ∧
    ∀ i k, i < l.length → k < i → meetI (ptA l i) (ptA l (nx l.length i)) (ptA l k) (ptA l (nx l.length k)) = wantN l.length i k := by
  refine ⟨(isRing_len h).1, ?_⟩
  simp only [isRing, Bool.and_eq_true] at h
  have hr := h.2
  simp only [rgOk, List.all_eq_true, List.mem_range] at hr
  have hs : ∀ i, i < l.length → isSeg (sAt l i) = true := fun i hi => by
    have := hr i hi
    simp only [rgAt, Bool.and_eq_true] at this
    exact this.1
  refine ⟨fun i hi => ?_, fun i k hi hk => ?_⟩
  · have h1 := hs i hi
    have h2 := (isSeg_bd h1).1
    have h3 := isSeg_ne h1
    rw [sAt_pt hi] at h2 h3
    exact ⟨h2, h3⟩
  · have h1 := hr i hi
    simp only [rgAt, rgIn, Bool.and_eq_true, List.all_eq_true, List.mem_range, beq_iff_eq] at h1
    have h2 := h1.2 k hk
    rw [hmI_eq (hs i hi) (hs k (by omega)), sAt_pt hi, sAt_pt (show k < l.length by omega)] at h2
    exact h2
def PR (f : Nat → Int) : Nat → Int
  | 0 => 1
  | n + 1 => PR f n * f n
theorem PR_pos {f : Nat → Int} : ∀ {n : Nat}, (∀ i, i < n → 0 < f i) → 0 < PR f n
  | 0, _ => by simp [PR]
  | n + 1, h => Int.mul_pos (PR_pos fun i hi => h i (by omega)) (h n (by omega))
theorem PR_dvd {f : Nat → Int} {i : Nat} : ∀ {n : Nat}, i < n → ∃ c, PR f n = f i * c
  | 0, h => by omega
  | n + 1, h => by
    by_cases e : i = n
    · subst e; exact ⟨PR f i, Int.mul_comm _ _⟩
    · obtain ⟨c, hc⟩ := PR_dvd (f := f) (i := i) (n := n) (by omega)
      exact ⟨c * f n, by rw [PR, hc, Int.mul_assoc]⟩
theorem ring_ply {l : List TPoint} (h : isRing l = true) : ∃ D : Int, 0 < D ∧ ∃ A B, Ply l.length (fun i => tP (ptA l i)) (fun i => D * (ptA l i).x) A B := by
  obtain ⟨hn, hc, hm⟩ := ring_edges h
  obtain ⟨n, hnn⟩ : ∃ n, n = l.length := ⟨_, rfl⟩
  rw [← hnn] at hn hc hm ⊢
  -- the corners' heights are different
  have tinj : ∀ i j, i < n → j < n → tP (ptA l i) = tP (ptA l j) → ptA l i = ptA l j := fun i j hi hj e => by
    have b1 := isp_bd (hc i hi).1
    have b2 := isp_bd (hc j hj).1
    unfold tP at e
    exact TPoint.ext' (by omega) (by omega)
  have ne_lt : ∀ i k, i < n → k < i → ptA l i ≠ ptA l k := fun i k hi hk e => by
    have nk := (hc k (by omega)).2
    have ni := (hc i hi).2
    by_cases w : k + 1 = i
    · rw [nx_eq (by omega), if_neg (by omega), w] at nk
      exact nk e.symm
    · by_cases w2 : k = 0 ∧ i + 1 = n
      · rw [nx_eq hi, if_pos w2.2, ← w2.1] at ni
        exact ni e
      · have := hm i k hi hk
        rw [wantN, if_neg (by omega)] at this
        refine (meet_zero ni nk this).1 ?_
        rw [← e, ← onB_iff]
        have q := (on_plc ni (crs_a _ _) (crs_b _ _) (crs_a (ptA l i) (ptA l (nx n i)))).2
        exact q (by unfold btw; omega)
  have pinj : ∀ i j, i < n → j < n → ptA l i = ptA l j → i = j := fun i j hi hj e => by
    rcases Nat.lt_trichotomy i j with w | w | w
    · exact absurd e.symm (ne_lt j i hj w)
    · exact w
    · exact absurd e (ne_lt i j hi w)
  have tne : ∀ i, i < n → tP (ptA l i) ≠ tP (ptA l (nx n i)) := fun i hi e => (hc i hi).2 (tinj i _ hi (nx_lt (by omega)) e)
  obtain ⟨D, hD⟩ : ∃ D, D = PR (fun i => (tP (ptA l (nx n i)) - tP (ptA l i)) * (tP (ptA l (nx n i)) - tP (ptA l i))) n := ⟨_, rfl⟩
  have hD0 : 0 < D := by
    rw [hD]
    refine PR_pos fun i hi => ?_
    have := tne i hi
    rcases (by omega : tP (ptA l (nx n i)) - tP (ptA l i) < 0 ∨ 0 < tP (ptA l (nx n i)) - tP (ptA l i)) with h | h
    · exact Int.mul_pos_of_neg_of_neg h h
    · exact Int.mul_pos h h
  have hq : ∀ i, ∃ q, i < n → D = (tP (ptA l (nx n i)) - tP (ptA l i)) * q := fun i => by
    by_cases hi : i < n
    · obtain ⟨c, hc⟩ := PR_dvd (f := fun i => (tP (ptA l (nx n i)) - tP (ptA l i)) * (tP (ptA l (nx n i)) - tP (ptA l i))) hi
      exact ⟨(tP (ptA l (nx n i)) - tP (ptA l i)) * c, fun _ => by rw [hD, hc, Int.mul_assoc]⟩
    · exact ⟨0, fun h => absurd h hi⟩
  obtain ⟨q, hq⟩ : ∃ q : Nat → Int, ∀ i, i < n → D = (tP (ptA l (nx n i)) - tP (ptA l i)) * q i := ⟨fun i => Classical.choose (hq i), fun i => Classical.choose_spec (hq i)⟩
  refine ⟨D, hD0, fun i => q i * ((ptA l (nx n i)).x - (ptA l i).x), fun i => D * (ptA l i).x - q i * ((ptA l (nx n i)).x - (ptA l i).x) * tP (ptA l i), ?_⟩
  have edg : ∀ i, i < n → Edg D (ptA l i) (ptA l (nx n i)) (q i * ((ptA l (nx n i)).x - (ptA l i).x)) (D * (ptA l i).x - q i * ((ptA l (nx n i)).x - (ptA l i).x) * tP (ptA l i)) := fun i hi => ⟨tne i hi, by omega, by have := hq i hi; grind⟩
  have sep : ∀ i k h m, i < n → k < i → min (tP (ptA l i)) (tP (ptA l (nx n i))) ≤ h → h ≤ max (tP (ptA l i)) (tP (ptA l (nx n i))) → min (tP (ptA l k)) (tP (ptA l (nx n k))) ≤ h → h ≤ max (tP (ptA l k)) (tP (ptA l (nx n k))) →
      min (tP (ptA l i)) (tP (ptA l (nx n i))) ≤ m → m ≤ max (tP (ptA l i)) (tP (ptA l (nx n i))) → min (tP (ptA l k)) (tP (ptA l (nx n k))) ≤ m → m ≤ max (tP (ptA l k)) (tP (ptA l (nx n k))) →
      (k = nx n i → h ≠ tP (ptA l k) ∧ m ≠ tP (ptA l k)) → (i = nx n k → h ≠ tP (ptA l i) ∧ m ≠ tP (ptA l i)) →
      ∀ u v, u = (q i * ((ptA l (nx n i)).x - (ptA l i).x) - q k * ((ptA l (nx n k)).x - (ptA l k).x)) → v = (D * (ptA l i).x - q i * ((ptA l (nx n i)).x - (ptA l i).x) * tP (ptA l i) - (D * (ptA l k).x - q k * ((ptA l (nx n k)).x - (ptA l k).x) * tP (ptA l k))) →
      u * h + v ≠ 0 ∧ (u * h + v < 0 ↔ u * m + v < 0) ∧ (u * m + v ≠ 0) := fun i k h m hi hk s1 s2 s3 s4 s5 s6 s7 s8 o1 o2 u v hu hv => by
    have ei := edg i hi
    have ek := edg k (by omega)
    have w := hm i k hi hk
    suffices hs : ∀ h m, min (tP (ptA l i)) (tP (ptA l (nx n i))) ≤ h → h ≤ max (tP (ptA l i)) (tP (ptA l (nx n i))) → min (tP (ptA l k)) (tP (ptA l (nx n k))) ≤ h → h ≤ max (tP (ptA l k)) (tP (ptA l (nx n k))) →
      min (tP (ptA l i)) (tP (ptA l (nx n i))) ≤ m → m ≤ max (tP (ptA l i)) (tP (ptA l (nx n i))) → min (tP (ptA l k)) (tP (ptA l (nx n k))) ≤ m → m ≤ max (tP (ptA l k)) (tP (ptA l (nx n k))) →
      (k = nx n i → h ≠ tP (ptA l k) ∧ m ≠ tP (ptA l k)) → (i = nx n k → h ≠ tP (ptA l i) ∧ m ≠ tP (ptA l i)) → u * h + v ≠ 0 ∧ (u * h + v < 0 ↔ u * m + v < 0) from
      ⟨(hs h m s1 s2 s3 s4 s5 s6 s7 s8 o1 o2).1, (hs h m s1 s2 s3 s4 s5 s6 s7 s8 o1 o2).2, (hs m h s5 s6 s7 s8 s1 s2 s3 s4 (fun e => ⟨(o1 e).2, (o1 e).1⟩) (fun e => ⟨(o2 e).2, (o2 e).1⟩)).1⟩
    clear s1 s2 s3 s4 s5 s6 s7 s8 o1 o2 h m
    intro h m s1 s2 s3 s4 s5 s6 s7 s8 o1 o2
    rw [hu, hv]
    by_cases w1 : k + 1 = i
    · -- k, then i
      have en : nx n k = i := by rw [nx_eq (by omega), if_neg (by omega), w1]
      rw [wantN, if_pos (.inl w1), en] at w
      obtain ⟨z1, z2⟩ := meet_next (by have := (hc k (by omega)).2; rw [en] at this; exact this) (hc i hi).2 (.inr w)
      have o := o2 en.symm
      rw [en] at ek s3 s4 s7 s8
      have r := ek.next ei hD0 z1 z2 (h := h) (k := m) (by omega) (by omega) (by omega) (by omega) o.1 o.2
      have r2 := ek.next ei hD0 z1 z2 (h := m) (k := h) (by omega) (by omega) (by omega) (by omega) o.2 o.1
      rw [en]
      have fl : ∀ (a a' b b' y : Int), (a - a') * y + (b - b') = -((a' - a) * y + (b' - b)) := fun a a' b b' y => by grind
      rw [fl _ _ _ _ h, fl _ _ _ _ m]
      omega
    · by_cases w2 : k = 0 ∧ i + 1 = n
      · have en : nx n i = k := by rw [nx_eq hi, if_pos w2.2, w2.1]
        rw [wantN, if_pos (.inr w2), en] at w
        obtain ⟨z1, z2⟩ := meet_next (by have := (hc i hi).2; rw [en] at this; exact this) (hc k (by omega)).2 (.inl w)
        have o := o1 en.symm
        rw [en] at ei s1 s2 s5 s6
        have r := ei.next ek hD0 z1 z2 (h := h) (k := m) (by omega) (by omega) (by omega) (by omega) o.1 o.2
        rw [en]
        exact r
      · rw [wantN, if_neg (by omega)] at w
        obtain ⟨z1, z2, z3, z4, z5⟩ := meet_zero (hc i hi).2 (hc k (by omega)).2 w
        exact ei.apart ek hD0 z1 z2 z3 z4 z5 (by omega) (by omega) (by omega) (by omega)
  refine ⟨hn, fun i hi => by unfold tP; omega, fun i j hi hj e => pinj i j hi hj (tinj i j hi hj e), fun i hi => (edg i hi).e0, fun i hi => (edg i hi).e1, fun i j h k hi hj hne s1 s2 s3 s4 s5 s6 s7 s8 o1 o2 => ?_⟩
  have fl : ∀ (a a' b b' y : Int), (a - a') * y + (b - b') = a * y + b - (a' * y + b') := fun a a' b b' y => by grind
  rcases Nat.lt_or_gt_of_ne hne with w | w
  · have r := sep j i h k hj w s3 s4 s1 s2 s7 s8 s5 s6 o2 o1 _ _ rfl rfl
    rw [fl, fl] at r
    omega
  · have r := sep i j h k hi w s1 s2 s3 s4 s5 s6 s7 s8 o1 o2 _ _ rfl rfl
    rw [fl, fl] at r
    omega
def area2 (l : List TPoint) : Int := SI (fun i => (ptA l i).x * (ptA l (nx l.length i)).y - (ptA l i).y * (ptA l (nx l.length i)).x) l.length
theorem ring_area {l : List TPoint} (h : isRing l = true) : area2 l ≠ 0 := fun h0 => by
  obtain ⟨D, hD, A, B, P⟩ := ring_ply h
  refine area_ne P ?_
  have hn := P.n3
  have e : SI (fun i => (D * (ptA l i).x + D * (ptA l (nx l.length i)).x) * (tP (ptA l (nx l.length i)) - tP (ptA l i))) l.length =
      SI (fun i => 2000 * D * ((ptA l i).x * (ptA l (nx l.length i)).y - (ptA l i).y * (ptA l (nx l.length i)).x) + ((fun j => 2 * D * ((ptA l j).x * (ptA l j).x) + 2000 * D * ((ptA l j).x * (ptA l j).y)) (nx l.length i) - (fun j => 2 * D * ((ptA l j).x * (ptA l j).x) + 2000 * D * ((ptA l j).x * (ptA l j).y)) i)) l.length := SI_congr fun i _ => by
    dsimp only
    unfold tP
    grind
  rw [e, SI_add, SI_sub, SI_cyc (fun j => 2 * D * ((ptA l j).x * (ptA l j).x) + 2000 * D * ((ptA l j).x * (ptA l j).y)) (by omega), SI_mul]
  unfold area2 at h0
  rw [h0]
  omega

end Go.Proofs.YtpffahmmklpifaaGreat.Abs
