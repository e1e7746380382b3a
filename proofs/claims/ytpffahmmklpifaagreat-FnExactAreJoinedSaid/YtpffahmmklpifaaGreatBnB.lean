/- Part B of the walk over abstract states and of the functions' walks. -/
import Derived.Test.YtpffahmmklpifaaGreatWkStep
import Derived.Test.YtpffahmmklpifaaGreatBnA
/- The walks of IsSimple and IsName. -/
namespace Go.Proofs.YtpffahmmklpifaaGreat.Abs
open Go.Proofs Go.RowKit
set_option linter.unusedVariables false
set_option linter.unusedSimpArgs false
set_option maxRecDepth 100000
set_option maxHeartbeats 2000000
attribute [local irreducible] OpA AL AW DL DLM DLR DLS QOp POp VCalls VCallsI
def wantL (i k : Nat) : Int := if k + 1 = i then 1 else 0
def gAt (l : List TPoint) (i : Nat) : TSegment := (segs l).getD i ⟨⟨0, 0⟩, ⟨0, 0⟩⟩
theorem gAt_of {l : List TPoint} {i : Nat} {x : TSegment} (h : (segs l)[i]? = some x) : gAt l i = x := by simp [gAt, List.getD_eq_getElem?_getD, h]
def smIn (l : List TPoint) (i n : Nat) : Bool := (List.range n).all fun k => hmI (gAt l i) (gAt l k) == wantL i k
def smOk (l : List TPoint) (n : Nat) : Bool := (List.range n).all fun i => smIn l i i
theorem smIn_succ (l : List TPoint) (i k : Nat) : smIn l i (k + 1) = (smIn l i k && (hmI (gAt l i) (gAt l k) == wantL i k)) := by simp [smIn, List.range_succ]
theorem smOk_succ (l : List TPoint) (i : Nat) : smOk l (i + 1) = (smOk l i && smIn l i i) := by simp [smOk, List.range_succ]
theorem smIn_not {l : List TPoint} {i k n : Nat} (h : (hmI (gAt l i) (gAt l k) == wantL i k) = false) (hk : k < n) : smIn l i n = false := by
  simp only [smIn, List.all_eq_false, List.mem_range]
  exact ⟨k, hk, by simp [h]⟩
theorem smOk_not {l : List TPoint} {i n : Nat} (h : smIn l i i = false) (hi : i < n) : smOk l n = false := by
  simp only [smOk, List.all_eq_false, List.mem_range]
  exact ⟨i, hi, by simp [h]⟩
def isSimple (l : List TPoint) : Bool := isLine l && smOk l (segs l).length
theorem wantL_s {i k : Nat} (hk : k < i) (hi : i ≤ 1048576) : ((IntKind.i64.wrap ((k : Int) + 1) == (i : Int)) = true ∧ wantL i k = 1) ∨ ((IntKind.i64.wrap ((k : Int) + 1) == (i : Int)) = false ∧ wantL i k = 0) := by
  rw [w64 (n := (k : Int) + 1) (by omega) (by omega)]
  unfold wantL
  simp only [beq_iff_eq, beq_eq_false_iff_ne, ne_eq]
  by_cases q1 : k + 1 = i
  · exact .inl ⟨by omega, by simp [q1]⟩
  · exact .inr ⟨by omega, by simp [q1]⟩
theorem wantL_i {i k : Nat} (hk : k < i) (hi : i ≤ 1048576) : (((k : Int) == IntKind.i64.wrap ((i : Int) - 1)) = true ∧ wantL i k = 1) ∨ (((k : Int) == IntKind.i64.wrap ((i : Int) - 1)) = false ∧ wantL i k = 0) := by
  have e1 : ((k : Int) == IntKind.i64.wrap ((i : Int) - 1)) = (IntKind.i64.wrap ((k : Int) + 1) == (i : Int)) := by
    rw [w64 (n := (k : Int) + 1) (by omega) (by omega), w64 (n := (i : Int) - 1) (by omega) (by omega), Bool.eq_iff_iff]
    simp only [beq_iff_eq]
    omega
  rw [e1]
  exact wantL_s hk hi
def nmAt (s : ByteArray) (i : Nat) : Bool := match s[i]? with
  | none => false
  | some b => !(decide (((b.toNat : Nat) : Int) < 97) || decide (((b.toNat : Nat) : Int) > 122))
def nmTo (s : ByteArray) (n : Nat) : Bool := (List.range n).all (nmAt s)
theorem nmTo_succ (s : ByteArray) (i : Nat) : nmTo s (i + 1) = (nmTo s i && nmAt s i) := by simp [nmTo, List.range_succ]
theorem nmTo_not {s : ByteArray} {i n : Nat} (h : nmAt s i = false) (hi : i < n) : nmTo s n = false := by
  simp only [nmTo, List.all_eq_false, List.mem_range]
  exact ⟨i, hi, by simp [h]⟩
theorem byte_get {s : ByteArray} {i : Nat} (h : i < s.size) : ∃ b : UInt8, s[i]? = some b ∧ s[((i : Nat) : Int).toNat]? = some b := ⟨s[i], by simp [h], by rw [Int.toNat_natCast]; simp [h]⟩
theorem nmAt_some {s : ByteArray} {i : Nat} {b : UInt8} (h : s[i]? = some b) : nmAt s i = !(decide (((b.toNat : Nat) : Int) < 97) || decide (((b.toNat : Nat) : Int) > 122)) := by simp [nmAt, h]
theorem bytes_lt {s : ByteArray} {i : Nat} (h : i < s.size) : decide ((i : Int) < (s.size : Int)) = true := by simp; omega
theorem bytes_ge {s : ByteArray} {i : Nat} (h : ¬ i < s.size) : decide ((i : Int) < (s.size : Int)) = false := by simp; omega
def isName (s : ByteArray) : Bool := nmTo s s.size && inr s.size 1 8
abbrev noName (s : ByteArray) : Bool := s.toList == (⟨#[]⟩ : ByteArray).toList
def kindOk (x : TFeature) : Bool := if (x.kind == 1) = true then ((x.points.length : Int) == 1) && isp (x.points.getD 0 ⟨0, 0⟩).x (x.points.getD 0 ⟨0, 0⟩).y else if (x.kind == 2) = true then isSimple x.points else if (x.kind == 3) = true then isRing x.points else false
theorem len1 (l : List TPoint) : ((((l.map TPoint.en).length : Int) == 1) = true ∧ ((l.length : Int) == 1) = true ∧ (l.map TPoint.en)[((0 : Int)).toNat]? = some (l.getD 0 ⟨0, 0⟩).en) ∨ ((((l.map TPoint.en).length : Int) == 1) = false ∧ ((l.length : Int) == 1) = false) := by
  rw [List.length_map]
  cases h : ((l.length : Int) == 1)
  · exact .inr ⟨rfl, rfl⟩
  · refine .inl ⟨rfl, rfl, ?_⟩
    cases l with
    | nil => simp at h
    | cons a l => rfl
theorem feat_cases (x : TFeature) : inr x.id 1 99 = false ∨ (inr x.id 1 99 = true ∧ inr x.rank 0 9 = false) ∨ (inr x.id 1 99 = true ∧ inr x.rank 0 9 = true ∧ noName x.name = false ∧ isName x.name = false) ∨
    (inr x.id 1 99 = true ∧ inr x.rank 0 9 = true ∧ noName x.name = true) ∨ (inr x.id 1 99 = true ∧ inr x.rank 0 9 = true ∧ noName x.name = false ∧ isName x.name = true) := by
  cases inr x.id 1 99 <;> cases inr x.rank 0 9 <;> cases noName x.name <;> cases isName x.name <;> simp
def isFeat (x : TFeature) : Bool := inr x.id 1 99 && inr x.rank 0 9 && (noName x.name || isName x.name) && kindOk x
def TFeature.gd (x : TFeature) : Prop := x.points.length ≤ 1048576 ∧ x.name.size ≤ maxLen
def prevF (l : List TFeature) (i : Nat) : TFeature := l.getD (i - 1) ⟨0, 0, 0, ⟨#[]⟩, []⟩
def srcAt (l : List TFeature) (i : Nat) : Bool := match l[i]? with
  | none => false
  | some x => isFeat x && (i == 0 || decide ((prevF l i).id < x.id))
def srcOk (l : List TFeature) (n : Nat) : Bool := (List.range n).all (srcAt l)
theorem srcOk_succ (l : List TFeature) (i : Nat) : srcOk l (i + 1) = (srcOk l i && srcAt l i) := by simp [srcOk, List.range_succ]
theorem srcOk_not {l : List TFeature} {i n : Nat} (h : srcAt l i = false) (hi : i < n) : srcOk l n = false := by
  simp only [srcOk, List.all_eq_false, List.mem_range]
  exact ⟨i, hi, by simp [h]⟩
def isSource (l : List TFeature) : Bool := srcOk l l.length && decide ((l.length : Int) ≤ 16)
def partsOf (x : TFeature) : List TSegment := if isFeat x = true then (if (x.kind == 2) = true then segs x.points else if (x.kind == 3) = true then ringSegs x.points else []) else []
theorem partsOf_le (x : TFeature) : (partsOf x).length ≤ 10 := by
  have h1 := segs_le x.points
  have h2 := ringSegs_le x.points
  unfold partsOf
  repeat' split
  all_goals first | omega | simp
theorem src_cases {l : List TFeature} {i : Nat} {x : TFeature} (hx : l[i]? = some x) (hl : l.length ≤ 1048576) :
    (isFeat x = false ∧ srcAt l i = false) ∨ (isFeat x = true ∧ decide ((i : Int) > 0) = false ∧ srcAt l i = true) ∨
    (isFeat x = true ∧ decide ((i : Int) > 0) = true ∧ 0 ≤ IntKind.i64.wrap ((i : Int) - 1) ∧ (l.map TFeature.en)[(IntKind.i64.wrap ((i : Int) - 1)).toNat]? = some (prevF l i).en ∧ srcAt l i = decide ((prevF l i).id < x.id)) := by
  have hi := (List.getElem?_eq_some_iff.1 hx).1
  cases hI : isFeat x
  · exact .inl ⟨rfl, by simp [srcAt, hx, hI]⟩
  · rcases Nat.eq_zero_or_pos i with h0 | h0
    · subst h0
      exact .inr (.inl ⟨rfl, by simp, by simp [srcAt, hx, hI]⟩)
    · have e : IntKind.i64.wrap ((i : Int) - 1) = ((i - 1 : Nat) : Int) := by rw [w64 (by omega) (by omega)]; omega
      refine .inr (.inr ⟨rfl, decide_eq_true (by omega), by omega, ?_, ?_⟩)
      · rw [e, Int.toNat_natCast, List.getElem?_map, List.getElem?_eq_getElem (show i - 1 < l.length by omega)]
        simp [prevF, List.getD_eq_getElem?_getD, List.getElem?_eq_getElem (show i - 1 < l.length by omega)]
      · have : (i == 0) = false := by simp; omega
        simp [srcAt, hx, hI, this]

theorem isSimple_s (l : List TPoint) (hl : l.length ≤ 1048576) : VCalls Tryz.prog 171 [.ro 2 (l.map TPoint.en)] (fun r M => r = B (isSimple l) ∧ M = []) := by
  refine VB Tryz.func171 36 (fun E hE => ?_)
  have hclo : Clo (.ro 2 (l.map TPoint.en)) := clo_list TPoint.clo_en
  have hclS : Clo (.ro 4 ((segs l).map TSegment.en)) := clo_list TSegment.clo_en
  have hsl := segs_le l
  have hclo : Clo (.ro 2 (l.map TPoint.en)) := clo_list TPoint.clo_en
  have hclS : Clo (.ro 4 ((segs l).map TSegment.en)) := clo_list TSegment.clo_en
  have hsl := segs_le l
  repeat' ((first
    | (refine iAL ?_; first | refine AL.any ?_ | refine AL.any (h := POp.k Tryz.func173 (hc := segs_s _ (by assumption))) ?_ | refine AL.any (h := POp.k Tryz.func238 (hc := isLine_s _ (by assumption))) ?_ | refine AL.nil ?_)
    | ((with_reducible show DL ..); first | refine DL.any ?_ | refine DL.any (h := POp.k Tryz.func223 (hc := meet_s x y)) ?_ | refine DL.nil ?_)
    | (refine iAW ?_; first | (refine AW.c0 ?_; constructor) | (refine AW.loopD hE (fun i : Nat => [.ro 2 (l.map TPoint.en), .any, .any, .ro 4 ((segs l).map TSegment.en), I (i : Int), .any, .any, .any, .any, .any, .any, .any, .any, .any, .any, .any, .any, .any, .any, .any, .any, .any, .any, .any, .any, .any, .any, .any, .any, .any, .any, .any, .any, .any, .any, .any, .any]) (fun i => []) (fun i => (segs l).length - i) (fun i => i ≤ (segs l).length ∧ smOk l i = true) 0 ⟨Nat.zero_le _, by simp [smOk]⟩ ?_ (by first | rfl | (simp; done)) ?_) | refine AW.dr (id := 11) 10 ?_ | refine AW.cT ?_ | refine AW.cF ?_ | (refine AW.c2 ?_ ?_ <;> (intro h; try simp only [bT, bF] at h)))
    | with_reducible refine ifP ?_
    | with_reducible refine ifN ?_) <;> (try dsimp only))
  · (repeat' (first | exact Wk.nil | refine Wk.any ?_ | (with_reducible refine Wk.same ?_) | refine Wk.of ?_ ?_)) <;> first | rfl | (simp; done)
  · intro i hv_i
    have hclo : Clo (.ro 2 (l.map TPoint.en)) := clo_list TPoint.clo_en
    have hclS : Clo (.ro 4 ((segs l).map TSegment.en)) := clo_list TSegment.clo_en
    have hsl := segs_le l
    by_cases hlt_i : i < (segs l).length
    · skip
      obtain ⟨x, hx⟩ : ∃ x, (segs l)[i]? = some x := ⟨_, List.getElem?_eq_getElem hlt_i⟩
      have hgx := map_get (f := TSegment.en) hx
      have hti := lt_true (f := TSegment.en) hlt_i
      have hni := next_ix hlt_i (by omega)
      have hro := smOk_succ l i
      have hsx := gAt_of hx
      repeat' ((first
        | (refine iAL ?_; first | refine AL.any ?_ | refine AL.any (h := POp.k Tryz.func173 (hc := segs_s _ (by assumption))) ?_ | refine AL.any (h := POp.k Tryz.func238 (hc := isLine_s _ (by assumption))) ?_ | refine AL.nil ?_)
        | ((with_reducible show DL ..); first | refine DL.any ?_ | refine DL.any (h := POp.k Tryz.func223 (hc := meet_s x y)) ?_ | refine DL.nil ?_)
        | (refine iAW ?_; first | (refine AW.c0 ?_; constructor) | (refine AW.loopD hE (fun k : Nat => [.ro 2 (l.map TPoint.en), .any, .any, .ro 4 ((segs l).map TSegment.en), I (i : Int), I (k : Int), .any, .any, .any, .any, .any, .any, .any, .any, .any, .any, .any, .any, .any, .any, .any, .any, .any, .any, .any, .any, .any, .any, .any, .any, .any, .any, .any, .any, .any, .any, .any]) (fun k => []) (fun k => i - k) (fun k => k ≤ i ∧ smIn l i k = true) 0 ⟨Nat.zero_le _, by simp [smIn]⟩ ?_ (by first | rfl | (simp; done)) ?_) | refine AW.dr (id := 11) 10 ?_ | refine AW.cT ?_ | refine AW.cF ?_ | (refine AW.c2 ?_ ?_ <;> (intro h; try simp only [bT, bF] at h)))
        | with_reducible refine ifP ?_
        | with_reducible refine ifN ?_) <;> (try dsimp only))
      · (repeat' (first | exact Wk.nil | refine Wk.any ?_ | (with_reducible refine Wk.same ?_) | refine Wk.of ?_ ?_)) <;> first | rfl | (simp; done)
      · intro k hv_k
        have hclo : Clo (.ro 2 (l.map TPoint.en)) := clo_list TPoint.clo_en
        have hclS : Clo (.ro 4 ((segs l).map TSegment.en)) := clo_list TSegment.clo_en
        have hsl := segs_le l
        by_cases hlt_k : k < i
        · skip
          obtain ⟨y, hy⟩ : ∃ y, (segs l)[k]? = some y := ⟨_, List.getElem?_eq_getElem (by omega)⟩
          have hgy := map_get (f := TSegment.en) hy
          have htk : decide ((k : Int) < (i : Int)) = true := by simp; omega
          have hnk := next_ix hlt_k (by omega)
          have hsy := gAt_of hy
          have hrk : smIn l i (k + 1) = (smIn l i k && (hmI x y == wantL i k)) := by rw [smIn_succ, hsx, hsy]
          rcases wantL_s (i := i) (k := k) hlt_k (by omega) with ⟨w1, wN⟩ | ⟨w1, wN⟩
          all_goals
            repeat' ((first
              | (refine iAL ?_; first | refine AL.any ?_ | refine AL.any (h := POp.k Tryz.func173 (hc := segs_s _ (by assumption))) ?_ | refine AL.any (h := POp.k Tryz.func238 (hc := isLine_s _ (by assumption))) ?_ | refine AL.nil ?_)
              | ((with_reducible show DL ..); first | refine DL.any ?_ | refine DL.any (h := POp.k Tryz.func223 (hc := meet_s x y)) ?_ | refine DL.nil ?_)
              | (refine iAW ?_; first | (refine AW.c0 ?_; constructor) | refine AW.dr (id := 11) 10 ?_ | refine AW.cT ?_ | refine AW.cF ?_ | (refine AW.c2 ?_ ?_ <;> (intro h; try simp only [bT, bF] at h)))
              | with_reducible refine ifP ?_
              | with_reducible refine ifN ?_) <;> (try dsimp only))
            all_goals first
              | (refine ⟨k + 1, _, ⟨hlt_k, by simp_all⟩, by omega, ?_, rfl, ?_, ?_⟩; (focus ((repeat' (first | exact Wk.nil | refine Wk.any ?_ | (with_reducible refine Wk.same ?_) | refine Wk.of ?_ ?_)) <;> (simp_all))); (focus (exact fitsA)); (focus (exact FitsM.nil _)))
              | exact Fin.one rfl (RV.tmp (by rfl)) (clo_c _) ⟨by have e1 := smIn_not (l := l) (i := i) (k := k) (n := i) (by simp_all) hlt_k; have e2 := smOk_not (l := l) (i := i) (n := (segs l).length) (by simp_all) (by omega); simp_all [isSimple], rfl⟩
        · have e_k : k = i := by omega
          have htk : decide ((k : Int) < (i : Int)) = false := by simp; omega
          have e2 := e_k.symm
          subst e2
          repeat' ((first
            | (refine iAL ?_; first | refine AL.any ?_ | refine AL.any (h := POp.k Tryz.func173 (hc := segs_s _ (by assumption))) ?_ | refine AL.any (h := POp.k Tryz.func238 (hc := isLine_s _ (by assumption))) ?_ | refine AL.nil ?_)
            | ((with_reducible show DL ..); first | refine DL.any ?_ | refine DL.any (h := POp.k Tryz.func223 (hc := meet_s x y)) ?_ | refine DL.nil ?_)
            | (refine iAW ?_; first | (refine AW.c0 ?_; constructor) | refine AW.dr (id := 11) 10 ?_ | refine AW.cT ?_ | refine AW.cF ?_ | (refine AW.c2 ?_ ?_ <;> (intro h; try simp only [bT, bF] at h)))
            | with_reducible refine ifP ?_
            | with_reducible refine ifN ?_) <;> (try dsimp only))
          all_goals first
            | (refine ⟨i + 1, _, ⟨hlt_i, by simp_all⟩, by omega, ?_, rfl, ?_, ?_⟩; (focus ((repeat' (first | exact Wk.nil | refine Wk.any ?_ | (with_reducible refine Wk.same ?_) | refine Wk.of ?_ ?_)) <;> (simp_all))); (focus (exact fitsA)); (focus (exact FitsM.nil _)))
    · have e_i : i = (segs l).length := by omega
      have hti := lt_false (f := TSegment.en) (show ¬ i < (segs l).length by omega)
      have e2 := e_i.symm
      subst e2
      repeat' ((first
        | (refine iAL ?_; first | refine AL.any ?_ | refine AL.any (h := POp.k Tryz.func173 (hc := segs_s _ (by assumption))) ?_ | refine AL.any (h := POp.k Tryz.func238 (hc := isLine_s _ (by assumption))) ?_ | refine AL.nil ?_)
        | ((with_reducible show DL ..); first | refine DL.any ?_ | refine DL.any (h := POp.k Tryz.func223 (hc := meet_s x y)) ?_ | refine DL.nil ?_)
        | (refine iAW ?_; first | (refine AW.c0 ?_; constructor) | refine AW.dr (id := 11) 10 ?_ | refine AW.cT ?_ | refine AW.cF ?_ | (refine AW.c2 ?_ ?_ <;> (intro h; try simp only [bT, bF] at h)))
        | with_reducible refine ifP ?_
        | with_reducible refine ifN ?_) <;> (try dsimp only))
      all_goals first
        | exact Fin.one rfl (RV.tmp (by rfl)) (clo_c _) ⟨by simp_all [isSimple], rfl⟩

theorem isSimple_i (l : List TPoint) (hl : l.length ≤ 1048576) : VCalls Tryz.prog 181 [.ro 2 (l.map TPoint.en)] (fun r M => r = B (isSimple l) ∧ M = []) := by
  refine VB Tryz.func181 37 (fun E hE => ?_)
  have hclo : Clo (.ro 2 (l.map TPoint.en)) := clo_list TPoint.clo_en
  have hclS : Clo (.ro 4 ((segs l).map TSegment.en)) := clo_list TSegment.clo_en
  have hsl := segs_le l
  have hclo : Clo (.ro 2 (l.map TPoint.en)) := clo_list TPoint.clo_en
  have hclS : Clo (.ro 4 ((segs l).map TSegment.en)) := clo_list TSegment.clo_en
  have hsl := segs_le l
  repeat' ((first
    | (refine iAL ?_; first | refine AL.any ?_ | refine AL.any (h := POp.k Tryz.func245 (hc := isLine_i _ (by assumption))) ?_ | refine AL.any (h := POp.k Tryz.func246 (hc := segs_i _ (by assumption))) ?_ | refine AL.nil ?_)
    | ((with_reducible show DL ..); first | refine DL.any ?_ | refine DL.any (h := POp.k Tryz.func247 (hc := meet_i x y)) ?_ | refine DL.nil ?_)
    | (refine iAW ?_; first | (refine AW.c0 ?_; constructor) | (refine AW.loopD hE (fun i : Nat => [.ro 2 (l.map TPoint.en), .any, .any, .ro 4 ((segs l).map TSegment.en), .any, .any, .any, .any, .any, .any, .any, .any, .any, I (((segs l).map TSegment.en).length : Int), I (i : Int), .any, .any, .any, .any, .any, .any, .any, .any, .any, .any, .any, .any, .any, .any, .any, .any, .any, .any, .any, .any, .any, .any, .any]) (fun i => []) (fun i => (segs l).length - i) (fun i => i ≤ (segs l).length ∧ smOk l i = true) 0 ⟨Nat.zero_le _, by simp [smOk]⟩ ?_ (by first | rfl | (simp; done)) ?_) | refine AW.dr (id := 13) 10 ?_ | refine AW.cT ?_ | refine AW.cF ?_ | (refine AW.c2 ?_ ?_ <;> (intro h; try simp only [bT, bF] at h)))
    | with_reducible refine ifP ?_
    | with_reducible refine ifN ?_) <;> (try dsimp only))
  any_goals first | exact Fin.one rfl (RV.tmp (by rfl)) (clo_c _) ⟨by simp_all [isSimple], rfl⟩
  · (repeat' (first | exact Wk.nil | refine Wk.any ?_ | (with_reducible refine Wk.same ?_) | refine Wk.of ?_ ?_)) <;> first | rfl | (simp; done)
  · intro i hv_i
    have hclo : Clo (.ro 2 (l.map TPoint.en)) := clo_list TPoint.clo_en
    have hclS : Clo (.ro 4 ((segs l).map TSegment.en)) := clo_list TSegment.clo_en
    have hsl := segs_le l
    by_cases hlt_i : i < (segs l).length
    · skip
      obtain ⟨x, hx⟩ : ∃ x, (segs l)[i]? = some x := ⟨_, List.getElem?_eq_getElem hlt_i⟩
      have hgx := map_get (f := TSegment.en) hx
      have hti := lt_true (f := TSegment.en) hlt_i
      have hni := next_ix hlt_i (by omega)
      have hro := smOk_succ l i
      have hsx := gAt_of hx
      repeat' ((first
        | (refine iAL ?_; first | refine AL.any ?_ | refine AL.any (h := POp.k Tryz.func245 (hc := isLine_i _ (by assumption))) ?_ | refine AL.any (h := POp.k Tryz.func246 (hc := segs_i _ (by assumption))) ?_ | refine AL.nil ?_)
        | ((with_reducible show DL ..); first | refine DL.any ?_ | refine DL.any (h := POp.k Tryz.func247 (hc := meet_i x y)) ?_ | refine DL.nil ?_)
        | (refine iAW ?_; first | (refine AW.c0 ?_; constructor) | (refine AW.loopD hE (fun k : Nat => [.ro 2 (l.map TPoint.en), .any, .any, .ro 4 ((segs l).map TSegment.en), I (i : Int), .any, .any, .any, .any, .any, .any, .any, .any, I (((segs l).map TSegment.en).length : Int), I (i : Int), .any, .any, I (i : Int), I (k : Int), .any, .any, .any, .any, .any, .any, .any, .any, .any, .any, .any, .any, .any, .any, .any, .any, .any, .any, .any]) (fun k => []) (fun k => i - k) (fun k => k ≤ i ∧ smIn l i k = true) 0 ⟨Nat.zero_le _, by simp [smIn]⟩ ?_ (by first | rfl | (simp; done)) ?_) | refine AW.dr (id := 13) 10 ?_ | refine AW.cT ?_ | refine AW.cF ?_ | (refine AW.c2 ?_ ?_ <;> (intro h; try simp only [bT, bF] at h)))
        | with_reducible refine ifP ?_
        | with_reducible refine ifN ?_) <;> (try dsimp only))
      · (repeat' (first | exact Wk.nil | refine Wk.any ?_ | (with_reducible refine Wk.same ?_) | refine Wk.of ?_ ?_)) <;> first | rfl | (simp; done)
      · intro k hv_k
        have hclo : Clo (.ro 2 (l.map TPoint.en)) := clo_list TPoint.clo_en
        have hclS : Clo (.ro 4 ((segs l).map TSegment.en)) := clo_list TSegment.clo_en
        have hsl := segs_le l
        by_cases hlt_k : k < i
        · skip
          obtain ⟨y, hy⟩ : ∃ y, (segs l)[k]? = some y := ⟨_, List.getElem?_eq_getElem (by omega)⟩
          have hgy := map_get (f := TSegment.en) hy
          have htk : decide ((k : Int) < (i : Int)) = true := by simp; omega
          have hnk := next_ix hlt_k (by omega)
          have hsy := gAt_of hy
          have hrk : smIn l i (k + 1) = (smIn l i k && (hmI x y == wantL i k)) := by rw [smIn_succ, hsx, hsy]
          rcases wantL_i (i := i) (k := k) hlt_k (by omega) with ⟨w1, wN⟩ | ⟨w1, wN⟩
          all_goals
            repeat' ((first
              | (refine iAL ?_; first | refine AL.any ?_ | refine AL.any (h := POp.k Tryz.func245 (hc := isLine_i _ (by assumption))) ?_ | refine AL.any (h := POp.k Tryz.func246 (hc := segs_i _ (by assumption))) ?_ | refine AL.nil ?_)
              | ((with_reducible show DL ..); first | refine DL.any ?_ | refine DL.any (h := POp.k Tryz.func247 (hc := meet_i x y)) ?_ | refine DL.nil ?_)
              | (refine iAW ?_; first | (refine AW.c0 ?_; constructor) | refine AW.dr (id := 13) 10 ?_ | refine AW.cT ?_ | refine AW.cF ?_ | (refine AW.c2 ?_ ?_ <;> (intro h; try simp only [bT, bF] at h)))
              | with_reducible refine ifP ?_
              | with_reducible refine ifN ?_) <;> (try dsimp only))
            all_goals first
              | (refine ⟨k + 1, _, ⟨hlt_k, by simp_all⟩, by omega, ?_, rfl, ?_, ?_⟩; (focus ((repeat' (first | exact Wk.nil | refine Wk.any ?_ | (with_reducible refine Wk.same ?_) | refine Wk.of ?_ ?_)) <;> (simp_all))); (focus (exact fitsA)); (focus (exact FitsM.nil _)))
              | exact Fin.one rfl (RV.tmp (by rfl)) (clo_c _) ⟨by have e1 := smIn_not (l := l) (i := i) (k := k) (n := i) (by simp_all) hlt_k; have e2 := smOk_not (l := l) (i := i) (n := (segs l).length) (by simp_all) (by omega); simp_all [isSimple], rfl⟩
        · have e_k : k = i := by omega
          have htk : decide ((k : Int) < (i : Int)) = false := by simp; omega
          have e2 := e_k.symm
          subst e2
          repeat' ((first
            | (refine iAL ?_; first | refine AL.any ?_ | refine AL.any (h := POp.k Tryz.func245 (hc := isLine_i _ (by assumption))) ?_ | refine AL.any (h := POp.k Tryz.func246 (hc := segs_i _ (by assumption))) ?_ | refine AL.nil ?_)
            | ((with_reducible show DL ..); first | refine DL.any ?_ | refine DL.any (h := POp.k Tryz.func247 (hc := meet_i x y)) ?_ | refine DL.nil ?_)
            | (refine iAW ?_; first | (refine AW.c0 ?_; constructor) | refine AW.dr (id := 13) 10 ?_ | refine AW.cT ?_ | refine AW.cF ?_ | (refine AW.c2 ?_ ?_ <;> (intro h; try simp only [bT, bF] at h)))
            | with_reducible refine ifP ?_
            | with_reducible refine ifN ?_) <;> (try dsimp only))
          all_goals first
            | (refine ⟨i + 1, _, ⟨hlt_i, by simp_all⟩, by omega, ?_, rfl, ?_, ?_⟩; (focus ((repeat' (first | exact Wk.nil | refine Wk.any ?_ | (with_reducible refine Wk.same ?_) | refine Wk.of ?_ ?_)) <;> (simp_all))); (focus (exact fitsA)); (focus (exact FitsM.nil _)))
    · have e_i : i = (segs l).length := by omega
      have hti := lt_false (f := TSegment.en) (show ¬ i < (segs l).length by omega)
      have e2 := e_i.symm
      subst e2
      repeat' ((first
        | (refine iAL ?_; first | refine AL.any ?_ | refine AL.any (h := POp.k Tryz.func245 (hc := isLine_i _ (by assumption))) ?_ | refine AL.any (h := POp.k Tryz.func246 (hc := segs_i _ (by assumption))) ?_ | refine AL.nil ?_)
        | ((with_reducible show DL ..); first | refine DL.any ?_ | refine DL.any (h := POp.k Tryz.func247 (hc := meet_i x y)) ?_ | refine DL.nil ?_)
        | (refine iAW ?_; first | (refine AW.c0 ?_; constructor) | refine AW.dr (id := 13) 10 ?_ | refine AW.cT ?_ | refine AW.cF ?_ | (refine AW.c2 ?_ ?_ <;> (intro h; try simp only [bT, bF] at h)))
        | with_reducible refine ifP ?_
        | with_reducible refine ifN ?_) <;> (try dsimp only))
      all_goals first
        | exact Fin.one rfl (RV.tmp (by rfl)) (clo_c _) ⟨by simp_all [isSimple], rfl⟩

theorem isName_s (s : ByteArray) (hs : s.size ≤ maxLen) : VCalls Tryz.prog 169 [S s] (fun r M => r = B (isName s) ∧ M = []) := by
  refine VB Tryz.func169 22 (fun E hE => ?_)
  rw [maxLen_eq] at hs
  repeat' ((first
    | (refine iAL ?_; first | refine AL.any ?_ | refine AL.any (h := POp.k Tryz.func96 (hc := inr_s _ _ _)) ?_ | refine AL.U ?_ | refine AL.F ?_ | refine AL.T ?_ | refine AL.W ?_ | refine AL.nil ?_)
    | (refine iAW ?_; first | (refine AW.c0 ?_; constructor) | refine AW.cT ?_ | refine AW.cF ?_ | (refine AW.c2 ?_ ?_ <;> (intro h; try simp only [bT, bF] at h)))
    | (refine AW.loopD hE (fun i : Nat => [S s, .any, .any, I (i : Int), .any, .any, .any, .any, .any, .any, .any, .any, .any, .any, .any, .any, .any, .any, .any, .any, .any, .any, .any]) (fun i => []) (fun i => s.size - i) (fun i => i ≤ s.size ∧ nmTo s i = true) 0 ⟨Nat.zero_le _, by simp [nmTo]⟩ ?_ (by first | rfl | (simp [fil_zero]; done)) ?_
       (focus (exact wkI))
       intro i hi
       by_cases hlt : i < s.size
       case' pos =>
         have hP := True.intro
         obtain ⟨b, hb, hb'⟩ := byte_get hlt
         have ht := bytes_lt hlt
         have hn := next_ix hlt (by omega)
         have hc := nmAt_some hb
         have hsu := nmTo_succ s i
       case' neg =>
         have hQ := True.intro
         have e : i = s.size := by omega
         have ht := bytes_ge hlt
         subst e)
    | with_reducible refine ifP ?_
    | with_reducible refine ifN ?_) <;> (try dsimp only))
  all_goals first
    | (have _ := hP; (refine ⟨i + 1, _, ⟨hlt, by simp_all⟩, by omega, ?_, rfl, ?_, ?_⟩; (focus (exact wkN)); (focus (exact fitsA)); (focus (exact FitsM.nil _))))
    | (have _ := hP; exact Fin.one rfl (RV.tmp (by rfl)) (clo_c _) ⟨by have hn := nmTo_not (n := s.size) (by simp_all : nmAt s i = false) hlt; simp_all [isName], rfl⟩)
    | (have _ := hQ; exact Fin.one rfl (RV.tmp (by rfl)) (clo_c _) ⟨by simp_all [isName], rfl⟩)

theorem isName_i (s : ByteArray) (hs : s.size ≤ maxLen) : VCalls Tryz.prog 179 [S s] (fun r M => r = B (isName s) ∧ M = []) := by
  refine VB Tryz.func179 22 (fun E hE => ?_)
  rw [maxLen_eq] at hs
  repeat' ((first
    | (refine iAL ?_; first | refine AL.any ?_ | refine AL.any (h := POp.k Tryz.func145 (hc := inr_v _ _ _)) ?_ | refine AL.U ?_ | refine AL.F ?_ | refine AL.T ?_ | refine AL.W ?_ | refine AL.nil ?_)
    | (refine iAW ?_; first | (refine AW.c0 ?_; constructor) | refine AW.cT ?_ | refine AW.cF ?_ | (refine AW.c2 ?_ ?_ <;> (intro h; try simp only [bT, bF] at h)))
    | (refine AW.loopD hE (fun i : Nat => [S s, .any, .any, .any, .any, I (s.size : Int), I (i : Int), .any, .any, .any, .any, .any, .any, .any, .any, .any, .any, .any, .any, .any, .any, .any, .any]) (fun i => []) (fun i => s.size - i) (fun i => i ≤ s.size ∧ nmTo s i = true) 0 ⟨Nat.zero_le _, by simp [nmTo]⟩ ?_ (by first | rfl | (simp [fil_zero]; done)) ?_
       (focus (exact wkI))
       intro i hi
       by_cases hlt : i < s.size
       case' pos =>
         have hP := True.intro
         obtain ⟨b, hb, hb'⟩ := byte_get hlt
         have ht := bytes_lt hlt
         have hn := next_ix hlt (by omega)
         have hc := nmAt_some hb
         have hsu := nmTo_succ s i
       case' neg =>
         have hQ := True.intro
         have e : i = s.size := by omega
         have ht := bytes_ge hlt
         subst e)
    | with_reducible refine ifP ?_
    | with_reducible refine ifN ?_) <;> (try dsimp only))
  all_goals first
    | (have _ := hP; (refine ⟨i + 1, _, ⟨hlt, by simp_all⟩, by omega, ?_, rfl, ?_, ?_⟩; (focus (exact wkN)); (focus (exact fitsA)); (focus (exact FitsM.nil _))))
    | (have _ := hP; exact Fin.one rfl (RV.tmp (by rfl)) (clo_c _) ⟨by have hn := nmTo_not (n := s.size) (by simp_all : nmAt s i = false) hlt; simp_all [isName], rfl⟩)
    | (have _ := hQ; exact Fin.one rfl (RV.tmp (by rfl)) (clo_c _) ⟨by simp_all [isName], rfl⟩)

theorem ringSegs_i (l : List TPoint) (hl : l.length ≤ 1048576) : VCalls Tryz.prog 251 [.ro 2 (l.map TPoint.en)] (fun r M => r = .ro 4 ((ringSegs l).map TSegment.en) ∧ M = []) := by
  refine VB Tryz.func251 8 (fun E hE => ?_)
  have hclo : Clo (.ro 2 (l.map TPoint.en)) := clo_list TPoint.clo_en
  have hclA : Clo (.ro 4 ((arnd l).map TSegment.en)) := clo_list TSegment.clo_en
  have hal := arnd_len l
  repeat' ((first
    | (refine iAL ?_; first | refine AL.any ?_ | refine AL.any (h := POp.k Tryz.func182 (hc := isRing_i _ (by assumption))) ?_ | refine AL.any (h := POp.k Tryz.func248 (hc := arnd_i _ (by assumption))) ?_ | refine AL.nil ?_)
    | (refine iAW ?_; first | (refine AW.freezeRet (t := 2) (id := 0) rfl rfl rfl rfl clo_rows_nil ?_; (try simp only [List.take_length]); try dsimp only [dput, List.set, cond_true, cond_false, Nat.zero_add, Nat.add_zero, Nat.reduceAdd, splice, List.take, List.drop, List.length, List.nil_append, List.cons_append, List.append, TPoint.en, TSegment.en, TBox.en, TFeature.en, TMeet.en, TPlace.en, TCover.en, TLabel.en, TPiece.en, TLevel.en, TChart.en, TReason.en, TEdit.en, TEntry.en, TEdition.en, TListing.en, TAtlas.en, TEvent.en, TWindow.en]) | (refine AW.c0 ?_; constructor) | refine AW.cT ?_ | refine AW.cF ?_ | (refine AW.c2 ?_ ?_ <;> (intro h; try simp only [bT, bF] at h)))) <;> (try dsimp only))
  all_goals first | exact Fin.one rfl (RV.tmp (by rfl)) (Clo.ro fun r hr => by simp at hr) ⟨by rw [ringSegs_f (by assumption)]; rfl, rfl⟩ | exact Fin.one rfl (RV.tmp (by rfl)) (clo_list TSegment.clo_en) ⟨by rw [ringSegs_t (by assumption)], rfl⟩

theorem isFeat_s (x : TFeature) (hg : x.gd) : VCalls Tryz.prog 109 [.agg x.en] (fun r M => r = B (isFeat x) ∧ M = []) := by
  refine VB Tryz.func109 48 (fun E hE => ?_)
  obtain ⟨hp1, hn1⟩ := id hg
  have hclP : Clo (.ro 2 (x.points.map TPoint.en)) := clo_list TPoint.clo_en
  have hcle : Clo (.agg x.en) := Clo.agg x.clo_en
  rcases feat_cases x with h1 | ⟨h1, h2⟩ | ⟨h1, h2, h3, h4⟩ | ⟨h1, h2, h3⟩ | ⟨h1, h2, h3, h4⟩
  all_goals rcases len1 x.points with ⟨h5, h6, hg0⟩ | ⟨h5, h6⟩
  repeat' ((first
    | (refine iAL ?_; first | refine AL.any ?_ | refine AL.any (h := POp.k Tryz.func96 (hc := inr_s _ _ _)) ?_ | refine AL.any (h := POp.k Tryz.func171 (hc := isSimple_s _ (by assumption))) ?_ | refine AL.any (h := POp.k Tryz.func172 (hc := isRing_s _ (by assumption))) ?_ | refine AL.U ?_ | refine AL.F ?_ | refine AL.T ?_ | refine AL.T (h := POp.k Tryz.func96 (hc := inr_s _ _ _)) ?_ | refine AL.T (h := POp.k Tryz.func169 (hc := isName_s _ (by assumption))) ?_ | refine AL.T (h := POp.k Tryz.func170 (hc := by first | exact isp_s_t _ _ (by assumption) | exact isp_s_f _ _ (by assumption) | exact isp_s _ _)) ?_ | refine AL.W ?_ | refine AL.W (h := fun h => by (try rw [h]); exact POp.k Tryz.func96 (hc := inr_s _ _ _)) ?_ | refine AL.W (h := fun h => by (try rw [h]); exact POp.k Tryz.func169 (hc := isName_s _ (by assumption))) ?_ | refine AL.W (h := fun h => by (try rw [h]); exact POp.k Tryz.func170 (hc := by first | exact isp_s_t _ _ (by assumption) | exact isp_s_f _ _ (by assumption) | exact isp_s _ _)) ?_ | refine AL.nil ?_)
    | (refine iAW ?_; first | (refine AW.c0 ?_; constructor) | refine AW.cT ?_ | refine AW.cF ?_ | (refine AW.c2 ?_ ?_ <;> (intro h; try simp only [bT, bF] at h)))) <;> (try dsimp only))
  all_goals exact Fin.one rfl (RV.tmp (by rfl)) (clo_c _) ⟨by first | (simp_all [isFeat, kindOk, noName]; done), rfl⟩

theorem isFeat_i (x : TFeature) (hg : x.gd) : VCalls Tryz.prog 119 [.agg x.en] (fun r M => r = B (isFeat x) ∧ M = []) := by
  refine VB Tryz.func119 48 (fun E hE => ?_)
  obtain ⟨hp1, hn1⟩ := id hg
  have hclP : Clo (.ro 2 (x.points.map TPoint.en)) := clo_list TPoint.clo_en
  have hcle : Clo (.agg x.en) := Clo.agg x.clo_en
  rcases feat_cases x with h1 | ⟨h1, h2⟩ | ⟨h1, h2, h3, h4⟩ | ⟨h1, h2, h3⟩ | ⟨h1, h2, h3, h4⟩
  all_goals rcases len1 x.points with ⟨h5, h6, hg0⟩ | ⟨h5, h6⟩
  repeat' ((first
    | (refine iAL ?_; first | refine AL.any ?_ | refine AL.any (h := POp.k Tryz.func145 (hc := inr_v _ _ _)) ?_ | refine AL.any (h := POp.k Tryz.func181 (hc := isSimple_i _ (by assumption))) ?_ | refine AL.any (h := POp.k Tryz.func182 (hc := isRing_i _ (by assumption))) ?_ | refine AL.U ?_ | refine AL.F ?_ | refine AL.T ?_ | refine AL.T (h := POp.k Tryz.func145 (hc := inr_v _ _ _)) ?_ | refine AL.T (h := POp.k Tryz.func179 (hc := isName_i _ (by assumption))) ?_ | refine AL.T (h := POp.k Tryz.func180 (hc := by first | exact isp_v_t _ _ (by assumption) | exact isp_v_f _ _ (by assumption) | exact isp_v _ _)) ?_ | refine AL.W ?_ | refine AL.W (h := fun h => by (try rw [h]); exact POp.k Tryz.func145 (hc := inr_v _ _ _)) ?_ | refine AL.W (h := fun h => by (try rw [h]); exact POp.k Tryz.func179 (hc := isName_i _ (by assumption))) ?_ | refine AL.W (h := fun h => by (try rw [h]); exact POp.k Tryz.func180 (hc := by first | exact isp_v_t _ _ (by assumption) | exact isp_v_f _ _ (by assumption) | exact isp_v _ _)) ?_ | refine AL.nil ?_)
    | (refine iAW ?_; first | (refine AW.c0 ?_; constructor) | refine AW.cT ?_ | refine AW.cF ?_ | (refine AW.c2 ?_ ?_ <;> (intro h; try simp only [bT, bF] at h)))) <;> (try dsimp only))
  all_goals exact Fin.one rfl (RV.tmp (by rfl)) (clo_c _) ⟨by first | (simp_all [isFeat, kindOk, noName]; done), rfl⟩

theorem isSource_s (l : List TFeature) (hl : l.length ≤ 1048576) (hp : ∀ x ∈ l, x.gd) : VCalls Tryz.prog 78 [.ro 5 (l.map TFeature.en)] (fun r M => r = B (isSource l) ∧ M = []) := by
  refine VB Tryz.func78 36 (fun E hE => ?_)
  have hclo : Clo (.ro 5 (l.map TFeature.en)) := clo_list TFeature.clo_en
  repeat' ((first
    | (refine iAL ?_; first | refine AL.any ?_ | refine AL.U ?_ | refine AL.F ?_ | refine AL.T ?_ | refine AL.W ?_ | refine AL.nil ?_)
    | ((with_reducible show DL ..); first | refine DL.any ?_ | refine DL.any (h := POp.k Tryz.func109 (hc := isFeat_s x (by assumption))) ?_ | refine DL.U ?_ | refine DL.F ?_ | refine DL.T ?_ | refine DL.W ?_ | refine DL.nil ?_)
    | (refine iAW ?_; first | (refine AW.c0 ?_; constructor) | refine AW.dr (id := 4) 21 ?_ | refine AW.cT ?_ | refine AW.cF ?_ | (refine AW.c2 ?_ ?_ <;> (intro h; try simp only [bT, bF] at h)))
    | (refine AW.loopD hE (fun i : Nat => [.ro 5 (l.map TFeature.en), .any, .any, I (i : Int), .any, .any, .any, .any, .any, .any, .any, .any, .any, .any, .any, .any, .any, .any, .any, .any, .any, .any, .any, .any, .any, .any, .any, .any, .any, .any, .any, .any, .any, .any, .any, .any, .any]) (fun i => []) (fun i => l.length - i) (fun i => i ≤ l.length ∧ srcOk l i = true) 0 (by simp [srcOk]) ?_ (by first | rfl | (simp [fil_zero]; done)) ?_
       (focus (exact wkI))
       intro i hi
       by_cases hlt : i < l.length
       case' pos =>
         have hP := True.intro
         obtain ⟨x, hx⟩ : ∃ x, l[i]? = some x := ⟨_, List.getElem?_eq_getElem hlt⟩
         have hg := map_get (f := TFeature.en) hx
         have ht := lt_true (f := TFeature.en) hlt
         have hn := next_ix hlt (by omega)
         have hgx := hp x (List.mem_of_getElem? hx)
         have hclP : Clo (.ro 2 (x.points.map TPoint.en)) := clo_list TPoint.clo_en
         have hcle : Clo (.agg x.en) := Clo.agg x.clo_en
         have hsu := srcOk_succ l i
         rcases src_cases hx hl with ⟨hI, hk⟩ | ⟨hI, hz, hk⟩ | ⟨hI, hz, h0, hp0, hk⟩
       case' neg =>
         have hQ := True.intro
         have ht := lt_false (f := TFeature.en) hlt
         have e : i = l.length := by omega
         subst e
         try rw [List.take_length])
    | with_reducible refine ifP ?_
    | with_reducible refine ifN ?_) <;> (try dsimp only))
  all_goals first
    | (have _ := hP; (refine ⟨i + 1, _, ⟨hlt, by simp_all <;> omega⟩, by omega, ?_, rfl, ?_, ?_⟩; (focus (exact wkN)); (focus (exact fitsA)); (focus (exact FitsM.nil _))))
    | (have _ := hP; exact Fin.one rfl (RV.tmp (by rfl)) (clo_c _) ⟨by have hn := srcOk_not (n := l.length) (by simp_all <;> omega : srcAt l i = false) hlt; simp_all [isSource], rfl⟩)
    | (have _ := hQ; exact Fin.one rfl (RV.tmp (by rfl)) (clo_c _) ⟨by first | (simp_all [isSource]; done) | (simp_all [isSource] <;> omega), rfl⟩)

theorem isSource_i (l : List TFeature) (hl : l.length ≤ 1048576) (hp : ∀ x ∈ l, x.gd) : VCalls Tryz.prog 80 [.ro 5 (l.map TFeature.en)] (fun r M => r = B (isSource l) ∧ M = []) := by
  refine VB Tryz.func80 33 (fun E hE => ?_)
  have hclo : Clo (.ro 5 (l.map TFeature.en)) := clo_list TFeature.clo_en
  repeat' ((first
    | (refine iAL ?_; first | refine AL.any ?_ | refine AL.U ?_ | refine AL.F ?_ | refine AL.T ?_ | refine AL.W ?_ | refine AL.nil ?_)
    | ((with_reducible show DL ..); first | refine DL.any ?_ | refine DL.any (h := POp.k Tryz.func119 (hc := isFeat_i x (by assumption))) ?_ | refine DL.U ?_ | refine DL.F ?_ | refine DL.T ?_ | refine DL.W ?_ | refine DL.nil ?_)
    | (refine iAW ?_; first | (refine AW.c0 ?_; constructor) | refine AW.dr (id := 6) 15 ?_ | refine AW.cT ?_ | refine AW.cF ?_ | (refine AW.c2 ?_ ?_ <;> (intro h; try simp only [bT, bF] at h)))
    | (refine AW.loopD hE (fun i : Nat => [.ro 5 (l.map TFeature.en), .any, .any, .any, .any, .any, .any, .any, .ro 5 (l.map TFeature.en), I ((l.map TFeature.en).length : Int), I (i : Int), .any, .any, .any, .any, .any, .any, .any, .any, .any, .any, .any, .any, .any, .any, .any, .any, .any, .any, .any, .any, .any, .any, .any]) (fun i => []) (fun i => l.length - i) (fun i => i ≤ l.length ∧ srcOk l i = true) 0 (by simp [srcOk]) ?_ (by first | rfl | (simp [fil_zero]; done)) ?_
       (focus (exact wkI))
       intro i hi
       by_cases hlt : i < l.length
       case' pos =>
         have hP := True.intro
         obtain ⟨x, hx⟩ : ∃ x, l[i]? = some x := ⟨_, List.getElem?_eq_getElem hlt⟩
         have hg := map_get (f := TFeature.en) hx
         have ht := lt_true (f := TFeature.en) hlt
         have hn := next_ix hlt (by omega)
         have hgx := hp x (List.mem_of_getElem? hx)
         have hclP : Clo (.ro 2 (x.points.map TPoint.en)) := clo_list TPoint.clo_en
         have hcle : Clo (.agg x.en) := Clo.agg x.clo_en
         have hsu := srcOk_succ l i
         rcases src_cases hx hl with ⟨hI, hk⟩ | ⟨hI, hz, hk⟩ | ⟨hI, hz, h0, hp0, hk⟩
       case' neg =>
         have hQ := True.intro
         have ht := lt_false (f := TFeature.en) hlt
         have e : i = l.length := by omega
         subst e
         try rw [List.take_length])
    | with_reducible refine ifP ?_
    | with_reducible refine ifN ?_) <;> (try dsimp only))
  all_goals first
    | (have _ := hP; (refine ⟨i + 1, _, ⟨hlt, by simp_all <;> omega⟩, by omega, ?_, rfl, ?_, ?_⟩; (focus (exact wkN)); (focus (exact fitsA)); (focus (exact FitsM.nil _))))
    | (have _ := hP; exact Fin.one rfl (RV.tmp (by rfl)) (clo_c _) ⟨by have hn := srcOk_not (n := l.length) (by simp_all <;> omega : srcAt l i = false) hlt; simp_all [isSource], rfl⟩)
    | (have _ := hQ; exact Fin.one rfl (RV.tmp (by rfl)) (clo_c _) ⟨by first | (simp_all [isSource]; done) | (simp_all [isSource] <;> omega), rfl⟩)
    | (exact Fin.one rfl (RV.tmp (by rfl)) (clo_c _) ⟨by simp_all [isSource] <;> omega, rfl⟩)

theorem ringSegs_s (l : List TPoint) (hl : l.length ≤ 1048576) : VCalls Tryz.prog 174 [.ro 2 (l.map TPoint.en)] (fun r M => r = .ro 4 ((ringSegs l).map TSegment.en) ∧ M = []) := by
  refine VB Tryz.func174 8 (fun E hE => ?_)
  have hclo : Clo (.ro 2 (l.map TPoint.en)) := clo_list TPoint.clo_en
  have hclS : Clo (.ro 4 ((segs l).map TSegment.en)) := clo_list TSegment.clo_en
  have hsl := segs_le l
  have hclA : Clo (.ro 4 ((arnd l).map TSegment.en)) := clo_list TSegment.clo_en
  repeat' ((first
    | (refine iAL ?_; first | refine AL.any ?_ | refine AL.any (h := POp.k Tryz.func172 (hc := isRing_s _ (by assumption))) ?_ | refine AL.any (h := POp.k Tryz.func239 (hc := arnd_s _ (by assumption))) ?_ | refine AL.nil ?_)
    | (refine iAW ?_; first | (refine AW.freezeRet (t := 2) (id := 0) rfl rfl rfl rfl clo_rows_nil ?_; (try simp only [List.take_length]); try dsimp only [dput, List.set, cond_true, cond_false, Nat.zero_add, Nat.add_zero, Nat.reduceAdd, splice, List.take, List.drop, List.length, List.nil_append, List.cons_append, List.append, TPoint.en, TSegment.en, TBox.en, TFeature.en, TMeet.en, TPlace.en, TCover.en, TLabel.en, TPiece.en, TLevel.en, TChart.en, TReason.en, TEdit.en, TEntry.en, TEdition.en, TListing.en, TAtlas.en, TEvent.en, TWindow.en]) | (refine AW.c0 ?_; constructor) | refine AW.cT ?_ | refine AW.cF ?_ | (refine AW.c2 ?_ ?_ <;> (intro h; try simp only [bT, bF] at h)))) <;> (try dsimp only))
  all_goals first | exact Fin.one rfl (RV.tmp (by rfl)) (Clo.ro fun r hr => by simp at hr) ⟨by rw [ringSegs_f (by assumption)]; rfl, rfl⟩ | exact Fin.one rfl (RV.tmp (by rfl)) (clo_list TSegment.clo_en) ⟨by rw [ringSegs_t (by assumption)], rfl⟩

theorem parts_s (x : TFeature) (hg : x.gd) : VCalls Tryz.prog 110 [.agg x.en] (fun r M => r = .ro 4 ((partsOf x).map TSegment.en) ∧ M = []) := by
  refine VB Tryz.func110 19 (fun E hE => ?_)
  obtain ⟨hp1, hn1⟩ := id hg
  have hclP : Clo (.ro 2 (x.points.map TPoint.en)) := clo_list TPoint.clo_en
  have hcle : Clo (.agg x.en) := Clo.agg x.clo_en
  have hclS : Clo (.ro 4 ((segs x.points).map TSegment.en)) := clo_list TSegment.clo_en
  have hclR : Clo (.ro 4 ((ringSegs x.points).map TSegment.en)) := clo_list TSegment.clo_en
  repeat' ((first
    | (refine iAL ?_; first | refine AL.any ?_ | refine AL.any (h := POp.k Tryz.func109 (hc := isFeat_s x (by assumption))) ?_ | refine AL.any (h := POp.k Tryz.func173 (hc := segs_s _ (by assumption))) ?_ | refine AL.any (h := POp.k Tryz.func174 (hc := ringSegs_s _ (by assumption))) ?_ | refine AL.nil ?_)
    | (refine iAW ?_; first | (refine AW.freezeRet (t := 2) (id := 1) rfl rfl rfl rfl clo_rows_nil ?_; (try simp only [List.take_length]); try dsimp only [dput, List.set, cond_true, cond_false, Nat.zero_add, Nat.add_zero, Nat.reduceAdd, splice, List.take, List.drop, List.length, List.nil_append, List.cons_append, List.append, TPoint.en, TSegment.en, TBox.en, TFeature.en, TMeet.en, TPlace.en, TCover.en, TLabel.en, TPiece.en, TLevel.en, TChart.en, TReason.en, TEdit.en, TEntry.en, TEdition.en, TListing.en, TAtlas.en, TEvent.en, TWindow.en]) | (refine AW.c0 ?_; constructor) | refine AW.cT ?_ | refine AW.cF ?_ | (refine AW.c2 ?_ ?_ <;> (intro h; try simp only [bT, bF] at h)))) <;> (try dsimp only))
  all_goals first | exact Fin.one rfl (RV.tmp (by rfl)) hclS ⟨by unfold partsOf; simp_all, rfl⟩ | exact Fin.one rfl (RV.tmp (by rfl)) hclR ⟨by unfold partsOf; simp_all, rfl⟩ | exact Fin.one rfl (RV.tmp (by rfl)) (Clo.ro clo_rows_nil) ⟨by unfold partsOf; simp_all, rfl⟩

theorem parts_i (x : TFeature) (hg : x.gd) : VCalls Tryz.prog 184 [.agg x.en] (fun r M => r = .ro 4 ((partsOf x).map TSegment.en) ∧ M = []) := by
  refine VB Tryz.func184 17 (fun E hE => ?_)
  obtain ⟨hp1, hn1⟩ := id hg
  have hclP : Clo (.ro 2 (x.points.map TPoint.en)) := clo_list TPoint.clo_en
  have hcle : Clo (.agg x.en) := Clo.agg x.clo_en
  have hclS : Clo (.ro 4 ((segs x.points).map TSegment.en)) := clo_list TSegment.clo_en
  have hclR : Clo (.ro 4 ((ringSegs x.points).map TSegment.en)) := clo_list TSegment.clo_en
  repeat' ((first
    | (refine iAL ?_; first | refine AL.any ?_ | refine AL.any (h := POp.k Tryz.func119 (hc := isFeat_i x (by assumption))) ?_ | refine AL.any (h := POp.k Tryz.func246 (hc := segs_i _ (by assumption))) ?_ | refine AL.any (h := POp.k Tryz.func251 (hc := ringSegs_i _ (by assumption))) ?_ | refine AL.nil ?_)
    | (refine iAW ?_; first | (refine AW.freezeRet (t := 2) (id := 1) rfl rfl rfl rfl clo_rows_nil ?_; (try simp only [List.take_length]); try dsimp only [dput, List.set, cond_true, cond_false, Nat.zero_add, Nat.add_zero, Nat.reduceAdd, splice, List.take, List.drop, List.length, List.nil_append, List.cons_append, List.append, TPoint.en, TSegment.en, TBox.en, TFeature.en, TMeet.en, TPlace.en, TCover.en, TLabel.en, TPiece.en, TLevel.en, TChart.en, TReason.en, TEdit.en, TEntry.en, TEdition.en, TListing.en, TAtlas.en, TEvent.en, TWindow.en]) | (refine AW.c0 ?_; constructor) | refine AW.cT ?_ | refine AW.cF ?_ | (refine AW.c2 ?_ ?_ <;> (intro h; try simp only [bT, bF] at h)))) <;> (try dsimp only))
  all_goals first | exact Fin.one rfl (RV.tmp (by rfl)) hclS ⟨by unfold partsOf; simp_all, rfl⟩ | exact Fin.one rfl (RV.tmp (by rfl)) hclR ⟨by unfold partsOf; simp_all, rfl⟩ | exact Fin.one rfl (RV.tmp (by rfl)) (Clo.ro clo_rows_nil) ⟨by unfold partsOf; simp_all, rfl⟩

def isBoxB (b : TBox) : Bool := isp b.low.x b.low.y && isp b.high.x b.high.y && decide (b.low.x ≤ b.high.x) && decide (b.low.y ≤ b.high.y)
def inBoxB (b : TBox) (p : TPoint) : Bool := isBoxB b && inr p.x b.low.x b.high.x && inr p.y b.low.y b.high.y
def boxMeetB (a b : TBox) : Bool := isBoxB a && isBoxB b && decide (a.low.x ≤ b.high.x) && decide (b.low.x ≤ a.high.x) && decide (a.low.y ≤ b.high.y) && decide (b.low.y ≤ a.high.y)
def comX (a b : TBox) : Int := wsub (wmin a.high.x b.high.x) (wmax a.low.x b.low.x)
def comY (a b : TBox) : Int := wsub (wmin a.high.y b.high.y) (wmax a.low.y b.low.y)
def boxMeetI (a b : TBox) : Bool := isBoxB a && isBoxB b && decide (comX a b ≥ 0) && decide (comY a b ≥ 0)
theorem isBox_bd {b : TBox} (h : isBoxB b = true) : 0 ≤ b.low.x ∧ b.low.x ≤ b.high.x ∧ b.high.x ≤ 200 ∧ 0 ≤ b.low.y ∧ b.low.y ≤ b.high.y ∧ b.high.y ≤ 200 := by
  simp only [isBoxB, Bool.and_eq_true, decide_eq_true_eq] at h
  have h1 := isp_bd h.1.1.1
  have h2 := isp_bd h.1.1.2
  omega
theorem boxMeetI_eq (a b : TBox) : boxMeetI a b = boxMeetB a b := by
  unfold boxMeetI boxMeetB
  cases ha : isBoxB a
  · simp
  · cases hb : isBoxB b
    · simp
    · have h1 := isBox_bd ha
      have h2 := isBox_bd hb
      unfold comX comY wsub wmin wmax
      rw [Bool.eq_iff_iff]
      simp only [Bool.and_eq_true, decide_eq_true_eq, true_and]
      rw [w64 (by split <;> split <;> omega) (by split <;> split <;> omega), w64 (by split <;> split <;> omega) (by split <;> split <;> omega)]
      repeat' split
      all_goals omega
abbrev stepBx (b : TBox) (p : TPoint) : TBox := ⟨⟨wmin b.low.x p.x, wmin b.low.y p.y⟩, ⟨wmax b.high.x p.x, wmax b.high.y p.y⟩⟩
def boxTo (p0 : TPoint) (l : List TPoint) (i : Nat) : TBox := (l.take i).foldl stepBx ⟨p0, p0⟩
theorem boxTo_succ {p0 : TPoint} {l : List TPoint} {i : Nat} {x : TPoint} (h : l[i]? = some x) : boxTo p0 l (i + 1) = stepBx (boxTo p0 l i) x := by simp [boxTo, take_succ_of h]
theorem boxTo_en {p0 : TPoint} {l : List TPoint} {i : Nat} {x : TPoint} (h : l[i]? = some x) : (boxTo p0 l (i + 1)).en = [I (wmin (boxTo p0 l i).low.x x.x), I (wmin (boxTo p0 l i).low.y x.y), I (wmax (boxTo p0 l i).high.x x.x), I (wmax (boxTo p0 l i).high.y x.y)] := by rw [boxTo_succ h]; rfl
def allP (l : List TPoint) (n : Nat) : Bool := (l.take n).all fun p => isp p.x p.y
theorem allP_succ {l : List TPoint} {i : Nat} {x : TPoint} (h : l[i]? = some x) : allP l (i + 1) = (allP l i && isp x.x x.y) := by simp [allP, take_succ_of h]
theorem allP_not {l : List TPoint} {i : Nat} {x : TPoint} (h : l[i]? = some x) (hx : isp x.x x.y = false) : allP l l.length = false := by
  rw [allP, List.take_length, List.all_eq_false]
  exact ⟨x, List.mem_of_getElem? h, by simp [hx]⟩
def box0 : TBox := ⟨⟨0, 0⟩, ⟨0, 0⟩⟩
def boxOf (p0 : TPoint) (l : List TPoint) : TBox := if allP l l.length = true then boxTo p0 l l.length else box0
theorem head_get {l : List TPoint} {p0 : TPoint} (h : l[0]? = some p0) : (l.map TPoint.en)[((0 : Int)).toNat]? = some p0.en ∧ (((l.map TPoint.en).length : Int) == 0) = false := by
  cases l with
  | nil => simp at h
  | cons a l => simp at h; subst h; exact ⟨rfl, by simp; omega⟩
def cornS (b : TBox) : List TPoint := [b.low, ⟨b.low.x, b.high.y⟩, b.high, ⟨b.high.x, b.low.y⟩]
def cornI (b : TBox) : List TPoint := [b.low, b.high, ⟨b.low.x, b.high.y⟩, ⟨b.high.x, b.low.y⟩]
def cntV (l : List TPoint) (s : TSegment) (v : Int) (i : Nat) : Nat := (l.take i).countP fun p => sdW s.a s.b p == v
theorem cntV_succ {l : List TPoint} {s : TSegment} {v : Int} {i : Nat} {x : TPoint} (h : l[i]? = some x) : cntV l s v (i + 1) = cntV l s v i + if (sdW s.a s.b x == v) = true then 1 else 0 := by
  simp [cntV, take_succ_of h, List.countP_append, List.countP_cons]
theorem cntV_le (l : List TPoint) (s : TSegment) (v : Int) (i : Nat) : cntV l s v i ≤ i := Nat.le_trans List.countP_le_length (by rw [List.length_take]; omega)
theorem cntV_perm (b : TBox) (s : TSegment) (v : Int) : cntV (cornI b) s v 4 = cntV (cornS b) s v 4 := by
  unfold cntV
  exact List.Perm.countP_eq _ (.cons _ (.swap _ _ _))
def meetsB (s : TSegment) (b : TBox) : Bool := isSeg s && boxMeetB (boxOf s.a [s.a, s.b]) b && decide ((cntV (cornS b) s 1 4 : Int) < 4) && decide ((cntV (cornS b) s (-1) 4 : Int) < 4)
theorem meetsB_n1 {s : TSegment} {b : TBox} (h : (!isSeg s || !boxMeetB (boxOf s.a [s.a, s.b]) b) = true) : meetsB s b = false := by
  unfold meetsB
  revert h
  cases isSeg s <;> cases boxMeetB (boxOf s.a [s.a, s.b]) b <;> simp
theorem meetsB_n2 {s : TSegment} {b : TBox} (h : (!isSeg s || !isBoxB b) = true) : meetsB s b = false := by
  unfold meetsB boxMeetB
  revert h
  cases isSeg s <;> cases isBoxB b <;> simp
theorem meetsB_n3 {s : TSegment} {b : TBox} (h : boxMeetB (boxOf s.a [s.a, s.b]) b = false) : meetsB s b = false := by
  unfold meetsB
  rw [h]
  simp
theorem cnt_cases (l : List TPoint) (s : TSegment) (x : TPoint) (i : Nat) (h : l[i]? = some x) :
    ((sdW s.a s.b x == 1) = true ∧ cntV l s 1 (i + 1) = cntV l s 1 i + 1 ∧ cntV l s (-1) (i + 1) = cntV l s (-1) i) ∨
    ((sdW s.a s.b x == 1) = false ∧ (sdW s.a s.b x == -1) = true ∧ cntV l s 1 (i + 1) = cntV l s 1 i ∧ cntV l s (-1) (i + 1) = cntV l s (-1) i + 1) ∨
    ((sdW s.a s.b x == 1) = false ∧ (sdW s.a s.b x == -1) = false ∧ cntV l s 1 (i + 1) = cntV l s 1 i ∧ cntV l s (-1) (i + 1) = cntV l s (-1) i) := by
  rw [cntV_succ h, cntV_succ h]
  cases h1 : (sdW s.a s.b x == 1)
  · cases h2 : (sdW s.a s.b x == -1)
    · exact .inr (.inr ⟨rfl, rfl, by simp, by simp⟩)
    · exact .inr (.inl ⟨rfl, rfl, by simp, by simp⟩)
  · have e : sdW s.a s.b x = 1 := by simpa using h1
    exact .inl ⟨rfl, by simp, by simp [e]⟩
def tileX (t : Int) : Int := wmul (t.tmod 21) 10
def tileY (t : Int) : Int := wmul (IntKind.i64.wrap (t.tdiv 21)) 10
def tileBox (t : Int) : TBox := if inr t 0 440 = true then ⟨⟨tileX t, tileY t⟩, ⟨wmin 200 (wadd (tileX t) 10), wmin 200 (wadd (tileY t) 10)⟩⟩ else box0
theorem wmin_comm (a b : Int) : wmin a b = wmin b a := by unfold wmin; split <;> split <;> omega
theorem fitsM_none {n : Nat} {M : Mem} (hm : FitsM n M) : FitsM n (none :: M) := fun b' hb r hr x hx => by
  rcases List.mem_cons.1 hb with e | hb
  · cases e
  · exact hm b' hb r hr x hx

theorem isBox_s (b : TBox) : VCalls Tryz.prog 241 [.agg b.en] (fun r M => r = B (isBoxB b) ∧ M = []) := by
  refine VB Tryz.func241 28 (fun E hE => ?_)
  dsimp only [TPoint.en, TBox.en]
  repeat' ((first
    | (refine iAL ?_; first | refine AL.any ?_ | refine AL.any (h := POp.k Tryz.func170 (hc := by first | exact isp_s_t _ _ (by assumption) | exact isp_s_f _ _ (by assumption) | exact isp_s _ _)) ?_ | refine AL.U ?_ | refine AL.F ?_ | refine AL.T ?_ | refine AL.T (h := POp.k Tryz.func170 (hc := by first | exact isp_s_t _ _ (by assumption) | exact isp_s_f _ _ (by assumption) | exact isp_s _ _)) ?_ | refine AL.W ?_ | refine AL.W (h := fun h => by (try rw [h]); exact POp.k Tryz.func170 (hc := by first | exact isp_s_t _ _ (by assumption) | exact isp_s_f _ _ (by assumption) | exact isp_s _ _)) ?_ | refine AL.nil ?_)
    | (refine iAW ?_; first | (refine AW.c0 ?_; constructor))) <;> (try dsimp only))
  all_goals exact Fin.one rfl (RV.tmp (by rfl)) (clo_c _) ⟨by first | rfl | (simp only [isBoxB, Bool.and_assoc]; done), rfl⟩

theorem inBox_s (b : TBox) (p : TPoint) : VCalls Tryz.prog 176 [.agg b.en, .agg p.en] (fun r M => r = B (inBoxB b p) ∧ M = []) := by
  refine VB Tryz.func176 27 (fun E hE => ?_)
  dsimp only [TPoint.en, TBox.en]
  repeat' ((first
    | (refine iAL ?_; first | refine AL.any ?_ | refine AL.any (h := POp.k Tryz.func241 (hc := by first | exact isBox_s b | exact isBox_s a)) ?_ | refine AL.U ?_ | refine AL.F ?_ | refine AL.T ?_ | refine AL.T (h := POp.k Tryz.func96 (hc := inr_s _ _ _)) ?_ | refine AL.W ?_ | refine AL.W (h := fun h => by (try rw [h]); exact POp.k Tryz.func96 (hc := inr_s _ _ _)) ?_ | refine AL.nil ?_)
    | (refine iAW ?_; first | (refine AW.c0 ?_; constructor))) <;> (try dsimp only))
  all_goals exact Fin.one rfl (RV.tmp (by rfl)) (clo_c _) ⟨by first | rfl | (simp only [inBoxB, Bool.and_assoc]; done), rfl⟩

theorem isBox_i (b : TBox) : VCalls Tryz.prog 250 [.agg b.en] (fun r M => r = B (isBoxB b) ∧ M = []) := by
  refine VB Tryz.func250 28 (fun E hE => ?_)
  dsimp only [TPoint.en, TBox.en]
  repeat' ((first
    | (refine iAL ?_; first | refine AL.any ?_ | refine AL.any (h := POp.k Tryz.func180 (hc := by first | exact isp_v_t _ _ (by assumption) | exact isp_v_f _ _ (by assumption) | exact isp_v _ _)) ?_ | refine AL.U ?_ | refine AL.F ?_ | refine AL.T ?_ | refine AL.T (h := POp.k Tryz.func180 (hc := by first | exact isp_v_t _ _ (by assumption) | exact isp_v_f _ _ (by assumption) | exact isp_v _ _)) ?_ | refine AL.W ?_ | refine AL.W (h := fun h => by (try rw [h]); exact POp.k Tryz.func180 (hc := by first | exact isp_v_t _ _ (by assumption) | exact isp_v_f _ _ (by assumption) | exact isp_v _ _)) ?_ | refine AL.nil ?_)
    | (refine iAW ?_; first | (refine AW.c0 ?_; constructor))) <;> (try dsimp only))
  all_goals exact Fin.one rfl (RV.tmp (by rfl)) (clo_c _) ⟨by first | rfl | (simp only [isBoxB, Bool.and_assoc]; done), rfl⟩

theorem inBox_i (b : TBox) (p : TPoint) : VCalls Tryz.prog 183 [.agg b.en, .agg p.en] (fun r M => r = B (inBoxB b p) ∧ M = []) := by
  refine VB Tryz.func183 27 (fun E hE => ?_)
  dsimp only [TPoint.en, TBox.en]
  repeat' ((first
    | (refine iAL ?_; first | refine AL.any ?_ | refine AL.any (h := POp.k Tryz.func250 (hc := by first | exact isBox_i b | exact isBox_i a)) ?_ | refine AL.U ?_ | refine AL.F ?_ | refine AL.T ?_ | refine AL.T (h := POp.k Tryz.func145 (hc := inr_v _ _ _)) ?_ | refine AL.W ?_ | refine AL.W (h := fun h => by (try rw [h]); exact POp.k Tryz.func145 (hc := inr_v _ _ _)) ?_ | refine AL.nil ?_)
    | (refine iAW ?_; first | (refine AW.c0 ?_; constructor))) <;> (try dsimp only))
  all_goals exact Fin.one rfl (RV.tmp (by rfl)) (clo_c _) ⟨by first | rfl | (simp only [inBoxB, Bool.and_assoc]; done), rfl⟩

theorem boxMeet_s (a b : TBox) : VCalls Tryz.prog 243 [.agg a.en, .agg b.en] (fun r M => r = B (boxMeetB a b) ∧ M = []) := by
  refine VB Tryz.func243 45 (fun E hE => ?_)
  dsimp only [TPoint.en, TBox.en]
  repeat' ((first
    | (refine iAL ?_; first | refine AL.any ?_ | refine AL.any (h := POp.k Tryz.func241 (hc := by first | exact isBox_s b | exact isBox_s a)) ?_ | refine AL.U ?_ | refine AL.F ?_ | refine AL.T ?_ | refine AL.T (h := POp.k Tryz.func241 (hc := by first | exact isBox_s b | exact isBox_s a)) ?_ | refine AL.W ?_ | refine AL.W (h := fun h => by (try rw [h]); exact POp.k Tryz.func241 (hc := by first | exact isBox_s b | exact isBox_s a)) ?_ | refine AL.nil ?_)
    | (refine iAW ?_; first | (refine AW.c0 ?_; constructor))) <;> (try dsimp only))
  all_goals exact Fin.one rfl (RV.tmp (by rfl)) (clo_c _) ⟨by first | rfl | (simp only [boxMeetB, Bool.and_assoc]; done), rfl⟩

theorem com_i (a b : TBox) : VCalls Tryz.prog 286 [.agg a.en, .agg b.en] (fun r M => r = .tup [I (comX a b), I (comY a b)] ∧ M = []) := by
  refine VB Tryz.func286 34 (fun E hE => ?_)
  dsimp only [TPoint.en, TBox.en]
  repeat' ((first
    | (refine iAL ?_; first | refine AL.any ?_ | refine AL.nil ?_)
    | ((with_reducible show DL ..); first | refine DL.any ?_ | refine DL.nil ?_)
    | (refine iAW ?_; first | (refine AW.c0 ?_; constructor) | refine AW.dr (id := 1) 31 ?_)) <;> (try dsimp only))
  all_goals exact Fin.two rfl (RV.tmp (by rfl)) (RV.tmp (by rfl)) (clo_of (by rfl)) ⟨by rfl, rfl⟩

theorem boxMeet_i0 (a b : TBox) : VCalls Tryz.prog 253 [.agg a.en, .agg b.en] (fun r M => r = B (boxMeetI a b) ∧ M = []) := by
  refine VB Tryz.func253 25 (fun E hE => ?_)
  dsimp only [TPoint.en, TBox.en]
  repeat' ((first
    | (refine iAL ?_; first | refine AL.any ?_ | refine AL.any (h := POp.k Tryz.func250 (hc := by first | exact isBox_i b | exact isBox_i a)) ?_ | refine AL.any (h := POp.k Tryz.func286 (hc := com_i a b)) ?_ | refine AL.U ?_ | refine AL.F ?_ | refine AL.T ?_ | refine AL.T (h := POp.k Tryz.func250 (hc := by first | exact isBox_i b | exact isBox_i a)) ?_ | refine AL.W ?_ | refine AL.W (h := fun h => by (try rw [h]); exact POp.k Tryz.func250 (hc := by first | exact isBox_i b | exact isBox_i a)) ?_ | refine AL.nil ?_)
    | (refine iAW ?_; first | (refine AW.c0 ?_; constructor))) <;> (try dsimp only))
  all_goals exact Fin.one rfl (RV.tmp (by rfl)) (clo_c _) ⟨by first | rfl | (simp only [boxMeetI, Bool.and_assoc]; done), rfl⟩

theorem boxMeet_i (a b : TBox) : VCalls Tryz.prog 253 [.agg a.en, .agg b.en] (fun r M => r = B (boxMeetB a b) ∧ M = []) := boxMeetI_eq a b ▸ boxMeet_i0 a b
theorem tileBox_s (t : Int) : VCalls Tryz.prog 111 [I t] (fun r M => r = .tup [.agg (tileBox t).en, B (inr t 0 440)] ∧ M = []) := by
  refine VB Tryz.func111 26 (fun E hE => ?_)
  repeat' ((first
    | (refine iAL ?_; first | refine AL.any ?_ | refine AL.any (h := POp.k Tryz.func96 (hc := inr_s _ _ _)) ?_ | refine AL.any (h := POp.k Tryz.func175 (hc := min_s _ _)) ?_ | refine AL.nil ?_)
    | (refine iAW ?_; first | (refine AW.c0 ?_; constructor) | refine AW.cT ?_ | refine AW.cF ?_ | (refine AW.c2 ?_ ?_ <;> (intro h; try simp only [bT, bF] at h)))) <;> (try dsimp only))
  all_goals exact Fin.two rfl (RV.cell (QOp.quietA TT_ok (by rfl))) (RV.tmp (by rfl)) (clo_of (by rfl)) ⟨by first | (simp_all [tileBox, TBox.en, box0]; done) | (simp_all [tileBox, TBox.en, tileX, tileY]; done) | (simp_all [tileBox, TBox.en, tileX, tileY, wmin_comm 200]; exact ⟨rfl, rfl⟩), rfl⟩

theorem tileBox_i (t : Int) : VCalls Tryz.prog 120 [I t] (fun r M => r = .tup [.agg (tileBox t).en, B (inr t 0 440)] ∧ M = []) := by
  refine VB Tryz.func120 26 (fun E hE => ?_)
  repeat' ((first
    | (refine iAL ?_; first | refine AL.any ?_ | refine AL.any (h := POp.k Tryz.func145 (hc := inr_v _ _ _)) ?_ | refine AL.nil ?_)
    | (refine iAW ?_; first | (refine AW.c0 ?_; constructor) | refine AW.cT ?_ | refine AW.cF ?_ | (refine AW.c2 ?_ ?_ <;> (intro h; try simp only [bT, bF] at h)))) <;> (try dsimp only))
  all_goals exact Fin.two rfl (RV.cell (QOp.quietA TT_ok (by rfl))) (RV.tmp (by rfl)) (clo_of (by rfl)) ⟨by first | (simp_all [tileBox, TBox.en, box0]; done) | (simp_all [tileBox, TBox.en, tileX, tileY]; done) | (simp_all [tileBox, TBox.en, tileX, tileY, wmin_comm 200]; exact ⟨rfl, rfl⟩), rfl⟩

theorem boxOf_s (l : List TPoint) (p0 : TPoint) (hl : l.length ≤ 1048576) (h0 : l[0]? = some p0) : VCalls Tryz.prog 242 [.ro 2 (l.map TPoint.en)] (fun r M => r = .tup [.agg (boxOf p0 l).en, B (allP l l.length)] ∧ M = []) := by
  refine VB Tryz.func242 74 (fun E hE => ?_)
  have hclo : Clo (.ro 2 (l.map TPoint.en)) := clo_list TPoint.clo_en
  obtain ⟨hg0, hz0⟩ := head_get h0
  repeat' ((first
    | (refine iAL ?_; first | refine AL.any ?_ | refine AL.any (h := POp.k Tryz.func170 (hc := by first | exact isp_s_t _ _ (by assumption) | exact isp_s_f _ _ (by assumption) | exact isp_s _ _)) ?_ | refine AL.any (h := POp.k Tryz.func175 (hc := min_s _ _)) ?_ | refine AL.any (h := POp.k Tryz.func222 (hc := max_s _ _)) ?_ | refine AL.nil ?_)
    | ((with_reducible show DL ..); first | refine DL.any ?_ | refine DL.nil ?_)
    | ((with_reducible show DLM ..); first | refine DLM.any ?_ | refine DLM.mk ?_ | refine DLM.nil ?_)
    | (refine iAW ?_; first | (refine AW.c0 ?_; constructor) | refine AW.drM (id := 3) 8 7 ?_ | refine AW.dr (id := 9) 8 ?_ | refine AW.dr (id := 10) 8 ?_ | refine AW.dr (id := 11) 8 ?_ | refine AW.dr (id := 12) 8 ?_ | refine AW.cT ?_ | refine AW.cF ?_ | (refine AW.c2 ?_ ?_ <;> (intro h; try simp only [bT, bF] at h)))
    | (refine AW.loopD hE (fun i : Nat => (.ro 2 (l.map TPoint.en) :: .any :: .ref 0 0 4 0 0 :: .any :: .ref 1 0 4 0 0 :: I (i : Int) :: .any :: .any :: .any :: .any :: .any :: .any :: .any :: .any :: .any :: .any :: .any :: .any :: .any :: .any :: .any :: .any :: .any :: .any :: .any :: .any :: .any :: .any :: .any :: .any :: .any :: .any :: .any :: .any :: .any :: .any :: .any :: .any :: .any :: .any :: .any :: .any :: .any :: .any :: .any :: .any :: .any :: .any :: .any :: .any :: .any :: .any :: .any :: .any :: .any :: .any :: .any :: .any :: .any :: .any :: .any :: .any :: .any :: .any :: .any :: .any :: .any :: .any :: .any :: .any :: .any :: .any :: .any :: .any :: .any :: [])) (fun i => [some ⟨143, 4, 0, true, [box0.en]⟩, some ⟨143, 4, 0, true, [(boxTo p0 l i).en]⟩]) (fun i => l.length - i) (fun i => i ≤ l.length ∧ allP l i = true) 0 (by simp [allP]) ?_ (by first | rfl | (simp [fil_zero]; done)) ?_
       (focus (exact wkI))
       intro i hi
       by_cases hlt : i < l.length
       case' pos =>
         have hP := True.intro
         obtain ⟨x, hx⟩ : ∃ x, l[i]? = some x := ⟨_, List.getElem?_eq_getElem hlt⟩
         have hg := map_get (f := TPoint.en) hx
         have ht := lt_true (f := TPoint.en) hlt
         have hn := next_ix hlt (by omega)
         have hbs := boxTo_en (p0 := p0) hx
         have hap := allP_succ hx
       case' neg =>
         have hQ := True.intro
         have ht := lt_false (f := TPoint.en) hlt
         have e : i = l.length := by omega
         subst e
         try rw [List.take_length])
    | with_reducible refine ifP ?_
    | with_reducible refine ifN ?_) <;> (try dsimp only))
  all_goals first
    | (have _ := hP; (refine ⟨i + 1, _, ⟨hlt, by simp_all⟩, by omega, ?_, by rw [hbs] <;> rfl, ?_, ?_⟩; (focus (exact wkN)); (focus (exact fitsA)); (focus (exact fitsM_cons (clo_one box0.clo_en) (fitsM_cons (clo_one (TBox.clo_en _)) (FitsM.nil _))))))
    | (have _ := hP; exact Fin.two rfl (RV.cell (QOp.quietA TT_ok (by rfl))) (RV.tmp (by rfl)) (clo_of (by rfl)) ⟨by have hn := allP_not hx (by assumption); simp_all [boxOf, box0, TBox.en], rfl⟩)
    | (have _ := hQ; exact Fin.two rfl (RV.cell (QOp.quietA TT_ok (by rfl))) (RV.tmp (by rfl)) (clo_of (by rfl)) ⟨by simp_all [boxOf, TBox.en], rfl⟩)

theorem boxOf_i (l : List TPoint) (p0 : TPoint) (hl : l.length ≤ 1048576) (h0 : l[0]? = some p0) : VCalls Tryz.prog 252 [.ro 2 (l.map TPoint.en)] (fun r M => r = .tup [.agg (boxOf p0 l).en, B (allP l l.length)] ∧ M = []) := by
  refine VB Tryz.func252 57 (fun E hE => ?_)
  have hclo : Clo (.ro 2 (l.map TPoint.en)) := clo_list TPoint.clo_en
  obtain ⟨hg0, hz0⟩ := head_get h0
  repeat' ((first
    | (refine iAL ?_; first | refine AL.any ?_ | refine AL.any (h := POp.k Tryz.func180 (hc := by first | exact isp_v_t _ _ (by assumption) | exact isp_v_f _ _ (by assumption) | exact isp_v _ _)) ?_ | refine AL.nil ?_)
    | ((with_reducible show DL ..); first | refine DL.any ?_ | refine DL.nil ?_)
    | ((with_reducible show DLM ..); first | refine DLM.any ?_ | refine DLM.mk ?_ | refine DLM.nil ?_)
    | ((with_reducible show DLS ..); first | refine DLS.bef ?_ | refine DLS.any ?_ | refine DLS.st ?_ | refine DLS.nil ?_)
    | (refine iAW ?_; first | (refine AW.c0 ?_; constructor) | refine AW.drS (id := 9) 28 27 70844415 [some ⟨143, 4, 0, true, [box0.en]⟩, some ⟨143, 4, 0, true, [[I (wmin (boxTo p0 l i).low.x x.x), I (wmin (boxTo p0 l i).low.y x.y), I (boxTo p0 l i).high.x, I (boxTo p0 l i).high.y]]⟩, some ⟨141, 2, 0, true, [[I x.x, I x.y]]⟩] ?_ | refine AW.drM (id := 3) 8 7 ?_ | refine AW.cT ?_ | refine AW.cF ?_ | (refine AW.c2 ?_ ?_ <;> (intro h; try simp only [bT, bF] at h)))
    | (refine AW.loopD hE (fun i : Nat => [.ro 2 (l.map TPoint.en), .any, .ref 0 0 4 0 0, .any, .ref 1 0 4 0 0, .any, .any, .any, .any, .any, .any, .any, .any, .any, .any, .any, .any, .any, .ro 2 (l.map TPoint.en), I ((l.map TPoint.en).length : Int), I (i : Int), .any, .any, .any, .any, .any, .any, .any, .any, .any, .any, .any, .any, .any, .any, .any, .any, .any, .any, .any, .any, .any, .any, .any, .any, .any, .any, .any, .any, .any, .any, .any, .any, .any, .any, .any, .any, .any]) (fun i => [some ⟨143, 4, 0, true, [box0.en]⟩, some ⟨143, 4, 0, true, [(boxTo p0 l i).en]⟩]) (fun i => l.length - i) (fun i => i ≤ l.length ∧ allP l i = true) 0 (by simp [allP]) ?_ (by first | rfl | (simp [fil_zero]; done)) ?_
       (focus (exact wkI))
       intro i hi
       by_cases hlt : i < l.length
       case' pos =>
         have hP := True.intro
         obtain ⟨x, hx⟩ : ∃ x, l[i]? = some x := ⟨_, List.getElem?_eq_getElem hlt⟩
         have hg := map_get (f := TPoint.en) hx
         have ht := lt_true (f := TPoint.en) hlt
         have hn := next_ix hlt (by omega)
         have hbs := boxTo_en (p0 := p0) hx
         have hap := allP_succ hx
       case' neg =>
         have hQ := True.intro
         have ht := lt_false (f := TPoint.en) hlt
         have e : i = l.length := by omega
         subst e
         try rw [List.take_length])
    | with_reducible refine ifP ?_
    | with_reducible refine ifN ?_) <;> (try dsimp only))
  all_goals first
    | (have _ := hP; (refine ⟨i + 1, _, ⟨hlt, by simp_all⟩, by omega, ?_, by rw [hbs] <;> rfl, ?_, ?_⟩; (focus (exact wkN)); (focus (exact fitsA)); (focus (exact fitsM_cons (clo_one box0.clo_en) (fitsM_cons (clo_one (TBox.clo_en _)) (FitsM.nil _))))))
    | (have _ := hP; exact Fin.two rfl (RV.cell (QOp.quietA TT_ok (by rfl))) (RV.tmp (by rfl)) (clo_of (by rfl)) ⟨by have hn := allP_not hx (by assumption); simp_all [boxOf, box0, TBox.en], rfl⟩)
    | (have _ := hQ; exact Fin.two rfl (RV.cell (QOp.quietA TT_ok (by rfl))) (RV.tmp (by rfl)) (clo_of (by rfl)) ⟨by simp_all [boxOf, TBox.en], rfl⟩)

theorem meets_s (s : TSegment) (b : TBox) : VCalls Tryz.prog 177 [.agg s.en, .agg b.en] (fun r M => r = B (meetsB s b) ∧ M = []) := by
  refine VB Tryz.func177 73 (fun E hE => ?_)
  have hcl2 : Clo (.ro 2 ([s.a, s.b].map TPoint.en)) := clo_list TPoint.clo_en
  dsimp only [TSegment.en, TPoint.en, TBox.en]
  repeat' ((first
    | (refine iAL ?_; first | refine AL.any (h := POp.lit) ?_ | refine AL.any ?_ | refine AL.any (h := POp.k Tryz.func240 (hc := isSeg_s s)) ?_ | refine AL.any (h := POp.k Tryz.func242 (hc := boxOf_s [s.a, s.b] s.a (Nat.le_of_ble_eq_true (by rfl)) rfl)) ?_ | refine AL.any (h := POp.k Tryz.func244 (hc := side_s s.a s.b x)) ?_ | refine AL.U ?_ | refine AL.F ?_ | refine AL.T ?_ | refine AL.T (h := POp.k Tryz.func243 (hc := boxMeet_s (boxOf s.a [s.a, s.b]) b)) ?_ | refine AL.W ?_ | refine AL.W (h := fun h => by (try rw [h]); exact POp.k Tryz.func243 (hc := boxMeet_s (boxOf s.a [s.a, s.b]) b)) ?_ | refine AL.nil ?_)
    | ((with_reducible show DL ..); first | refine DL.any ?_ | refine DL.nil ?_)
    | (refine iAW ?_; first | (refine AW.c0 ?_; constructor) | refine AW.dr (id := 10) 8 ?_ | refine AW.cT ?_ | refine AW.cF ?_ | (refine AW.c2 ?_ ?_ <;> (intro h; try simp only [bT, bF] at h)))
    | (refine AW.loopD hE (fun i : Nat => (.any :: .any :: .ref 0 0 4 0 0 :: .ref 1 0 4 0 0 :: .any :: .any :: .any :: .ro 2 ((cornS b).map TPoint.en) :: I ((cntV (cornS b) s 1 i : Nat) : Int) :: I ((cntV (cornS b) s (-1) i : Nat) : Int) :: I (i : Int) :: .any :: .any :: .any :: .any :: .any :: .any :: .any :: .any :: .any :: .any :: .any :: .any :: .any :: .any :: .any :: .any :: .any :: .any :: .any :: .any :: .any :: .any :: .any :: .any :: .any :: .any :: .any :: .any :: .any :: .any :: .any :: .any :: .any :: .any :: .any :: .any :: .any :: .any :: .any :: .any :: .any :: .any :: .any :: .any :: .any :: .any :: .any :: .any :: .any :: .any :: .any :: .any :: .any :: .any :: .any :: .any :: .any :: .any :: .any :: .any :: .any :: .any :: .any :: .any :: [])) (fun i => [some ⟨200, 4, 0, true, [s.en]⟩, some ⟨143, 4, 0, true, [b.en]⟩, none, some ⟨143, 4, 0, true, [(boxOf s.a [s.a, s.b]).en]⟩, none]) (fun i => 4 - i) (fun i => i ≤ 4) 0 (by omega) ?_ (by first | rfl | (simp [fil_zero]; done)) ?_
       (focus ((repeat' (first | exact Wk.nil | refine Wk.any ?_ | (with_reducible refine Wk.same ?_) | refine Wk.of ?_ ?_)) <;> first | rfl | (simp [cntV])))
       intro i hi
       have hclo : Clo (.ro 2 ((cornS b).map TPoint.en)) := clo_list TPoint.clo_en
       by_cases hlt : i < 4
       case' pos =>
         have hP := True.intro
         obtain ⟨x, hx⟩ : ∃ x, (cornS b)[i]? = some x := ⟨_, List.getElem?_eq_getElem (show i < (cornS b).length from hlt)⟩
         have hg := map_get (f := TPoint.en) hx
         have ht : decide ((i : Int) < 4) = true := by simp; omega
         have hn := next_ix hlt (by omega)
         have hw1 := next_ix (show cntV (cornS b) s 1 i < 5 by have := cntV_le (cornS b) s 1 i; omega) (by omega)
         have hw2 := next_ix (show cntV (cornS b) s (-1) i < 5 by have := cntV_le (cornS b) s (-1) i; omega) (by omega)
         rcases cnt_cases (cornS b) s x i hx with ⟨q1, q3, q4⟩ | ⟨q1, q2, q3, q4⟩ | ⟨q1, q2, q3, q4⟩
       case' neg =>
         have hQ := True.intro
         have e : i = 4 := by omega
         have ht : decide ((i : Int) < 4) = false := by simp; omega
         have hp1 := cntV_perm b s 1
         have hp2 := cntV_perm b s (-1)
         subst e)
    | with_reducible refine ifP ?_
    | with_reducible refine ifN ?_) <;> (try dsimp only))
  all_goals first
    | (have _ := hP; (refine ⟨i + 1, _, hlt, by omega, ?_, rfl, ?_, ?_⟩; (focus (exact wkN)); (focus (exact fitsA)); (focus (exact fitsM_cons (clo_one s.clo_en) (fitsM_cons (clo_one b.clo_en) (fitsM_none (fitsM_cons (clo_one (TBox.clo_en _)) (fitsM_none (FitsM.nil _)))))))))
    | (have _ := hQ; exact Fin.one rfl (RV.tmp (by rfl)) (clo_c _) ⟨by first | (simp_all [meetsB]; done) | (simp_all [meetsB, boxMeetB]; done), rfl⟩)
    | (exact Fin.one rfl (RV.tmp (by rfl)) (clo_c _) ⟨by first | rw [meetsB_n1 (by assumption)] | rw [meetsB_n2 (by assumption)] | rw [meetsB_n3 (by assumption)], rfl⟩)

theorem meets_i (s : TSegment) (b : TBox) : VCalls Tryz.prog 185 [.agg s.en, .agg b.en] (fun r M => r = B (meetsB s b) ∧ M = []) := by
  refine VB Tryz.func185 75 (fun E hE => ?_)
  have hcl2 : Clo (.ro 2 ([s.a, s.b].map TPoint.en)) := clo_list TPoint.clo_en
  dsimp only [TSegment.en, TPoint.en, TBox.en]
  repeat' ((first
    | (refine iAL ?_; first | refine AL.any (h := POp.lit) ?_ | refine AL.any ?_ | refine AL.any (h := POp.k Tryz.func249 (hc := isSeg_i s)) ?_ | refine AL.any (h := POp.k Tryz.func252 (hc := boxOf_i [s.a, s.b] s.a (Nat.le_of_ble_eq_true (by rfl)) rfl)) ?_ | refine AL.any (h := POp.k Tryz.func253 (hc := boxMeet_i (boxOf s.a [s.a, s.b]) b)) ?_ | refine AL.any (h := POp.k Tryz.func254 (hc := side_i s.a s.b x)) ?_ | refine AL.U ?_ | refine AL.F ?_ | refine AL.T ?_ | refine AL.T (h := POp.k Tryz.func250 (hc := isBox_i b)) ?_ | refine AL.W ?_ | refine AL.W (h := fun h => by (try rw [h]); exact POp.k Tryz.func250 (hc := isBox_i b)) ?_ | refine AL.nil ?_)
    | (refine iAW ?_; first | (refine AW.c0 ?_; constructor) | refine AW.cT ?_ | refine AW.cF ?_ | (refine AW.c2 ?_ ?_ <;> (intro h; try simp only [bT, bF] at h)))
    | (refine AW.loopD hE (fun i : Nat => (.any :: .any :: .ref 0 0 4 0 0 :: .ref 1 0 4 0 0 :: .any :: .any :: .any :: I ((cntV (cornI b) s 1 i : Nat) : Int) :: I ((cntV (cornI b) s (-1) i : Nat) : Int) :: .any :: .any :: .any :: .any :: .any :: .any :: .any :: .any :: .any :: .any :: .any :: .any :: .any :: .any :: .any :: .any :: .any :: .any :: .any :: .any :: .any :: .any :: .any :: .any :: .any :: .any :: .any :: .any :: .any :: .any :: .any :: .any :: .any :: .any :: .any :: .any :: .any :: .any :: .any :: .any :: .any :: .ro 2 ((cornI b).map TPoint.en) :: I 4 :: I (i : Int) :: .any :: .any :: .any :: .any :: .any :: .any :: .any :: .any :: .any :: .any :: .any :: .any :: .any :: .any :: .any :: .any :: .any :: .any :: .any :: .any :: .any :: .any :: .any :: .any :: [])) (fun i => [some ⟨200, 4, 0, true, [s.en]⟩, some ⟨143, 4, 0, true, [b.en]⟩, none, some ⟨143, 4, 0, true, [(boxOf s.a [s.a, s.b]).en]⟩, none]) (fun i => 4 - i) (fun i => i ≤ 4) 0 (by omega) ?_ (by first | rfl | (simp [fil_zero]; done)) ?_
       (focus ((repeat' (first | exact Wk.nil | refine Wk.any ?_ | (with_reducible refine Wk.same ?_) | refine Wk.of ?_ ?_)) <;> first | rfl | (simp [cntV])))
       intro i hi
       have hclo : Clo (.ro 2 ((cornI b).map TPoint.en)) := clo_list TPoint.clo_en
       by_cases hlt : i < 4
       case' pos =>
         have hP := True.intro
         obtain ⟨x, hx⟩ : ∃ x, (cornI b)[i]? = some x := ⟨_, List.getElem?_eq_getElem (show i < (cornI b).length from hlt)⟩
         have hg := map_get (f := TPoint.en) hx
         have ht : decide ((i : Int) < 4) = true := by simp; omega
         have hn := next_ix hlt (by omega)
         have hw1 := next_ix (show cntV (cornI b) s 1 i < 5 by have := cntV_le (cornI b) s 1 i; omega) (by omega)
         have hw2 := next_ix (show cntV (cornI b) s (-1) i < 5 by have := cntV_le (cornI b) s (-1) i; omega) (by omega)
         rcases cnt_cases (cornI b) s x i hx with ⟨q1, q3, q4⟩ | ⟨q1, q2, q3, q4⟩ | ⟨q1, q2, q3, q4⟩
       case' neg =>
         have hQ := True.intro
         have e : i = 4 := by omega
         have ht : decide ((i : Int) < 4) = false := by simp; omega
         have hp1 := cntV_perm b s 1
         have hp2 := cntV_perm b s (-1)
         subst e)
    | with_reducible refine ifP ?_
    | with_reducible refine ifN ?_) <;> (try dsimp only))
  all_goals first
    | (have _ := hP; (refine ⟨i + 1, _, hlt, by omega, ?_, rfl, ?_, ?_⟩; (focus (exact wkN)); (focus (exact fitsA)); (focus (exact fitsM_cons (clo_one s.clo_en) (fitsM_cons (clo_one b.clo_en) (fitsM_none (fitsM_cons (clo_one (TBox.clo_en _)) (fitsM_none (FitsM.nil _)))))))))
    | (have _ := hQ; exact Fin.one rfl (RV.tmp (by rfl)) (clo_c _) ⟨by first | (simp_all [meetsB]; done) | (simp_all [meetsB, boxMeetB]; done), rfl⟩)
    | (exact Fin.one rfl (RV.tmp (by rfl)) (clo_c _) ⟨by first | rw [meetsB_n1 (by assumption)] | rw [meetsB_n2 (by assumption)] | rw [meetsB_n3 (by assumption)], rfl⟩)
    | (exact Fin.one rfl (RV.tmp (by rfl)) (clo_c _) ⟨by first | rw [meetsB_n1 (by assumption)] | rw [meetsB_n2 (by assumption)] | rw [meetsB_n3 (by assumption)], rfl⟩)

abbrev pt0 (f : TFeature) : TPoint := f.points.getD 0 ⟨0, 0⟩
def ptAt (f : TFeature) (k : Nat) : TSegment := (partsOf f).getD k ⟨⟨0, 0⟩, ⟨0, 0⟩⟩
theorem ptAt_of {f : TFeature} {i : Nat} {x : TSegment} (h : (partsOf f)[i]? = some x) : ptAt f i = x := by simp [ptAt, List.getD_eq_getElem?_getD, h]
def pcBase (f : TFeature) (b : TBox) : List TPiece := if ((f.kind == 1) && inBoxB b (pt0 f)) = true then [⟨f.id, 0⟩] else []
def pcTo (f : TFeature) (b : TBox) (i : Nat) : List TPiece := pcBase f b ++ ((List.range i).filter fun k => meetsB (ptAt f k) b).map fun k => ⟨f.id, (k : Int)⟩
def pcs (f : TFeature) (b : TBox) : List TPiece := pcTo f b (partsOf f).length
theorem pcTo_zero (f : TFeature) (b : TBox) : pcTo f b 0 = pcBase f b := by simp [pcTo]
theorem pcTo_succ (f : TFeature) (b : TBox) (i : Nat) : pcTo f b (i + 1) = if meetsB (ptAt f i) b = true then pcTo f b i ++ [⟨f.id, (i : Int)⟩] else pcTo f b i := by
  unfold pcTo
  rw [List.range_succ, List.filter_append, List.map_append, ← List.append_assoc]
  split <;> simp [*]
theorem pcTo_len (f : TFeature) (b : TBox) (i : Nat) : (pcTo f b i).length ≤ 1 + i := by
  induction i with
  | zero => rw [pcTo_zero]; unfold pcBase; split <;> simp
  | succ i ih =>
    rw [pcTo_succ]
    split
    · rw [List.length_append, List.length_singleton]; omega
    · omega
theorem pcs_len (f : TFeature) (b : TBox) : (pcs f b).length ≤ 11 := by
  have h1 := pcTo_len f b (partsOf f).length
  have h2 := partsOf_le f
  unfold pcs
  omega
theorem pc_cases {f : TFeature} {b : TBox} {i : Nat} {x : TSegment} (h : (partsOf f)[i]? = some x) :
    (meetsB x b = true ∧ (pcTo f b (i + 1)).map TPiece.en = (pcTo f b i).map TPiece.en ++ [[I f.id, I (i : Int)]] ∧ (pcTo f b (i + 1)).length = (pcTo f b i).length + 1) ∨
    (meetsB x b = false ∧ (pcTo f b (i + 1)).map TPiece.en = (pcTo f b i).map TPiece.en ∧ (pcTo f b (i + 1)).length = (pcTo f b i).length) := by
  rw [pcTo_succ, ptAt_of h]
  cases hm : meetsB x b
  · exact .inr ⟨rfl, by simp, by simp⟩
  · exact .inl ⟨rfl, by simp [TPiece.en], by simp⟩
theorem parts_k1 {f : TFeature} (hk : (f.kind == 1) = true) : partsOf f = [] := by
  have e : f.kind = 1 := by simpa using hk
  unfold partsOf
  rw [e]
  simp
theorem feat_pt {f : TFeature} (hf : isFeat f = true) (hk : (f.kind == 1) = true) : (f.points.map TPoint.en)[((0 : Int)).toNat]? = some (pt0 f).en := by
  simp only [isFeat, kindOk, Bool.and_eq_true, hk, if_true] at hf
  have h1 := hf.2.1
  cases hp : f.points with
  | nil => rw [hp] at h1; simp at h1
  | cons a l => simp [pt0, hp]
theorem base_t {f : TFeature} {b : TBox} (hk : (f.kind == 1) = true) (hi : inBoxB b (pt0 f) = true) : pcTo f b 0 = [⟨f.id, 0⟩] := by rw [pcTo_zero, pcBase, hk, hi]; rfl
theorem base_n {f : TFeature} {b : TBox} (hk : (f.kind == 1) = true) (hi : inBoxB b (pt0 f) = false) : pcTo f b 0 = [] := by rw [pcTo_zero, pcBase, hk, hi]; rfl
theorem base_f {f : TFeature} {b : TBox} (hk : (f.kind == 1) = false) : pcTo f b 0 = [] := by rw [pcTo_zero, pcBase, hk]; rfl
theorem src_feat {l : List TFeature} {i : Nat} {x : TFeature} (hS : isSource l = true) (hx : l[i]? = some x) : isFeat x = true := by
  simp only [isSource, Bool.and_eq_true, srcOk, List.all_eq_true, List.mem_range] at hS
  have h := hS.1 i (List.getElem?_eq_some_iff.1 hx).1
  simp only [srcAt, hx, Bool.and_eq_true] at h
  exact h.1
theorem src_len {l : List TFeature} (hS : isSource l = true) : l.length ≤ 16 := by
  simp only [isSource, Bool.and_eq_true, decide_eq_true_eq] at hS
  omega
def pcIn (l : List TFeature) (t : Int) (i : Nat) : List TPiece := (l.take i).flatMap fun f => pcs f (tileBox t)
theorem pcIn_succ {l : List TFeature} {t : Int} {i : Nat} {x : TFeature} (h : l[i]? = some x) : pcIn l t (i + 1) = pcIn l t i ++ pcs x (tileBox t) := by
  unfold pcIn
  rw [take_succ_of h, List.flatMap_append]
  simp
theorem pcIn_map {l : List TFeature} {t : Int} {i : Nat} {x : TFeature} (h : l[i]? = some x) : (pcIn l t (i + 1)).map TPiece.en = (pcIn l t i).map TPiece.en ++ (pcs x (tileBox t)).map TPiece.en := by rw [pcIn_succ h, List.map_append]
theorem pcIn_len (l : List TFeature) (t : Int) (i : Nat) (hi : i ≤ l.length) : (pcIn l t i).length ≤ 11 * i := by
  induction i with
  | zero => simp [pcIn]
  | succ i ih =>
    have := ih (by omega)
    have hx : l[i]? = some l[i] := List.getElem?_eq_getElem (by omega)
    have h2 := pcs_len l[i] (tileBox t)
    rw [pcIn_succ hx, List.length_append]
    omega
def nSrc (l : List TFeature) : Nat := if isSource l = true then l.length else 0
theorem nSrc_t {l : List TFeature} {i : Nat} (h : i < nSrc l) : isSource l = true ∧ nSrc l = l.length := by
  unfold nSrc at h ⊢
  split at h
  · rename_i hS; exact ⟨hS, by rw [if_pos hS]⟩
  · omega
theorem pcs_s_f (f : TFeature) (b : TBox) (hgd : f.gd) (hf : isFeat f = true) (hk : (f.kind == 1) = false) : VCalls Tryz.prog 112 [.agg f.en, .ro 4 ((partsOf f).map TSegment.en), .agg b.en] (fun r M => r = .ro 2 ((pcs f b).map TPiece.en) ∧ M = []) := by
  refine VB Tryz.func112 42 (fun E hE => ?_)
  have hclP : Clo (.ro 2 (f.points.map TPoint.en)) := clo_list TPoint.clo_en
  have hclS : Clo (.ro 4 ((partsOf f).map TSegment.en)) := clo_list TSegment.clo_en
  have hcle : Clo (.agg f.en) := Clo.agg f.clo_en
  have hpl := partsOf_le f
  have hb0 := base_f (b := b) hk
  repeat' ((first
    | (refine iAL ?_; first | refine AL.any ?_ | refine AL.any (h := POp.k Tryz.func177 (hc := meets_s x b)) ?_ | refine AL.U ?_ | refine AL.F ?_ | refine AL.T ?_ | refine AL.T (h := POp.k Tryz.func176 (hc := inBox_s b (pt0 f))) ?_ | refine AL.W ?_ | refine AL.W (h := fun h => by (try rw [h]); exact POp.k Tryz.func176 (hc := inBox_s b (pt0 f))) ?_ | refine AL.nil ?_)
    | ((with_reducible show DL ..); first | refine DL.any ?_ | refine DL.U ?_ | refine DL.F ?_ | refine DL.T ?_ | refine DL.W ?_ | refine DL.nil ?_)
    | (refine iAW ?_; first | (refine AW.freezeRet (t := 6) (id := 2) rfl rfl rfl rfl (clo_rows TPiece.clo_en) ?_; (try simp only [List.take_length]); try dsimp only [dput, List.set, cond_true, cond_false, Nat.zero_add, Nat.add_zero, Nat.reduceAdd, splice, List.take, List.drop, List.length, List.nil_append, List.cons_append, List.append, TPoint.en, TSegment.en, TBox.en, TFeature.en, TMeet.en, TPlace.en, TCover.en, TLabel.en, TPiece.en, TLevel.en, TChart.en, TReason.en, TEdit.en, TEntry.en, TEdition.en, TListing.en, TAtlas.en, TEvent.en, TWindow.en]) | (refine AW.c0 ?_; constructor) | refine AW.dr (id := 2) 9 ?_ | refine AW.dr (id := 7) 5 ?_ | refine AW.cT ?_ | refine AW.cF ?_ | (refine AW.c2 ?_ ?_ <;> (intro h; try simp only [bT, bF] at h)))
    | (refine AW.loopD hE (fun i : Nat => [.any, .ro 4 ((partsOf f).map TSegment.en), .any, .ref 0 0 5 0 0, .any, .ref 1 0 4 0 0, .any, .own 2 (pcTo f b i).length, I (i : Int), .any, .any, .any, .any, .any, .any, .any, .any, .any, .any, .any, .any, .any, .any, .any, .any, .any, .any, .any, .any, .any, .any, .any, .any, .any, .any, .any, .any, .any, .any, .any, .any, .any, .any, .any, .any]) (fun i => [some ⟨81, 5, 0, true, [f.en]⟩, some ⟨143, 4, 0, true, [b.en]⟩, some ⟨87, 2, (pcTo f b i).length, false, (pcTo f b i).map TPiece.en⟩]) (fun i => (partsOf f).length - i) (fun i => i ≤ (partsOf f).length) 0 (by simp) ?_ (by first | rfl | (rw [hb0]; rfl)) ?_
       (focus ((repeat' (first | exact Wk.nil | refine Wk.any ?_ | (with_reducible refine Wk.same ?_) | refine Wk.of ?_ ?_)) <;> first | rfl | (simp_all)))
       intro i hi
       by_cases hlt : i < (partsOf f).length
       case' pos =>
         have hP := True.intro
         obtain ⟨x, hx⟩ : ∃ x, (partsOf f)[i]? = some x := ⟨_, List.getElem?_eq_getElem hlt⟩
         have hg := map_get (f := TSegment.en) hx
         have ht := lt_true (f := TSegment.en) hlt
         have hn := next_ix hlt (by omega)
         have hln := pcTo_len f b i
         rcases pc_cases (b := b) hx with ⟨hm, h1, h2⟩ | ⟨hm, h1, h2⟩
       case' neg =>
         have hQ := True.intro
         have ht := lt_false (f := TSegment.en) hlt
         have e : i = (partsOf f).length := by omega
         subst e
         try rw [List.take_length])
    | with_reducible refine ifP ?_
    | with_reducible refine ifN ?_) <;> (try dsimp only))
  all_goals first
    | (have _ := hP; (refine ⟨i + 1, _, hlt, by omega, ?_, by rw [h1, h2] <;> rfl, ?_, ?_⟩; (focus (exact wkN)); (focus (exact fitsA)); (focus (exact fitsM_cons (clo_one f.clo_en) (fitsM_cons (clo_one b.clo_en) (fitsM_cons (clo_rows TPiece.clo_en) (FitsM.nil _)))))))
    | (have _ := hQ; exact Fin.one rfl (RV.tmp (by rfl)) (clo_list TPiece.clo_en) ⟨rfl, rfl⟩)

theorem pcs_s_n (f : TFeature) (b : TBox) (hgd : f.gd) (hf : isFeat f = true) (hk : (f.kind == 1) = true) (hin : inBoxB b (pt0 f) = false) : VCalls Tryz.prog 112 [.agg f.en, .ro 4 ((partsOf f).map TSegment.en), .agg b.en] (fun r M => r = .ro 2 ((pcs f b).map TPiece.en) ∧ M = []) := by
  refine VB Tryz.func112 42 (fun E hE => ?_)
  have hclP : Clo (.ro 2 (f.points.map TPoint.en)) := clo_list TPoint.clo_en
  have hclS : Clo (.ro 4 ((partsOf f).map TSegment.en)) := clo_list TSegment.clo_en
  have hcle : Clo (.agg f.en) := Clo.agg f.clo_en
  have hpl := partsOf_le f
  have hb0 := base_n hk hin
  have hp0 := feat_pt hf hk
  repeat' ((first
    | (refine iAL ?_; first | refine AL.any ?_ | refine AL.any (h := POp.k Tryz.func177 (hc := meets_s x b)) ?_ | refine AL.U ?_ | refine AL.F ?_ | refine AL.T ?_ | refine AL.T (h := POp.k Tryz.func176 (hc := inBox_s b (pt0 f))) ?_ | refine AL.W ?_ | refine AL.W (h := fun h => by (try rw [h]); exact POp.k Tryz.func176 (hc := inBox_s b (pt0 f))) ?_ | refine AL.nil ?_)
    | ((with_reducible show DL ..); first | refine DL.any ?_ | refine DL.U ?_ | refine DL.F ?_ | refine DL.T ?_ | refine DL.W ?_ | refine DL.nil ?_)
    | (refine iAW ?_; first | (refine AW.freezeRet (t := 6) (id := 2) rfl rfl rfl rfl (clo_rows TPiece.clo_en) ?_; (try simp only [List.take_length]); try dsimp only [dput, List.set, cond_true, cond_false, Nat.zero_add, Nat.add_zero, Nat.reduceAdd, splice, List.take, List.drop, List.length, List.nil_append, List.cons_append, List.append, TPoint.en, TSegment.en, TBox.en, TFeature.en, TMeet.en, TPlace.en, TCover.en, TLabel.en, TPiece.en, TLevel.en, TChart.en, TReason.en, TEdit.en, TEntry.en, TEdition.en, TListing.en, TAtlas.en, TEvent.en, TWindow.en]) | (refine AW.c0 ?_; constructor) | refine AW.dr (id := 2) 9 ?_ | refine AW.dr (id := 7) 5 ?_ | refine AW.cT ?_ | refine AW.cF ?_ | (refine AW.c2 ?_ ?_ <;> (intro h; try simp only [bT, bF] at h)))
    | (refine AW.loopD hE (fun i : Nat => [.any, .ro 4 ((partsOf f).map TSegment.en), .any, .ref 0 0 5 0 0, .any, .ref 1 0 4 0 0, .any, .own 2 (pcTo f b i).length, I (i : Int), .any, .any, .any, .any, .any, .any, .any, .any, .any, .any, .any, .any, .any, .any, .any, .any, .any, .any, .any, .any, .any, .any, .any, .any, .any, .any, .any, .any, .any, .any, .any, .any, .any, .any, .any, .any]) (fun i => [some ⟨81, 5, 0, true, [f.en]⟩, some ⟨143, 4, 0, true, [b.en]⟩, some ⟨87, 2, (pcTo f b i).length, false, (pcTo f b i).map TPiece.en⟩]) (fun i => (partsOf f).length - i) (fun i => i ≤ (partsOf f).length) 0 (by simp) ?_ (by first | rfl | (rw [hb0]; rfl)) ?_
       (focus ((repeat' (first | exact Wk.nil | refine Wk.any ?_ | (with_reducible refine Wk.same ?_) | refine Wk.of ?_ ?_)) <;> first | rfl | (simp_all)))
       intro i hi
       by_cases hlt : i < (partsOf f).length
       case' pos =>
         have hP := True.intro
         obtain ⟨x, hx⟩ : ∃ x, (partsOf f)[i]? = some x := ⟨_, List.getElem?_eq_getElem hlt⟩
         have hg := map_get (f := TSegment.en) hx
         have ht := lt_true (f := TSegment.en) hlt
         have hn := next_ix hlt (by omega)
         have hln := pcTo_len f b i
         rcases pc_cases (b := b) hx with ⟨hm, h1, h2⟩ | ⟨hm, h1, h2⟩
       case' neg =>
         have hQ := True.intro
         have ht := lt_false (f := TSegment.en) hlt
         have e : i = (partsOf f).length := by omega
         subst e
         try rw [List.take_length])
    | with_reducible refine ifP ?_
    | with_reducible refine ifN ?_) <;> (try dsimp only))
  all_goals first
    | (have _ := hP; (refine ⟨i + 1, _, hlt, by omega, ?_, by rw [h1, h2] <;> rfl, ?_, ?_⟩; (focus (exact wkN)); (focus (exact fitsA)); (focus (exact fitsM_cons (clo_one f.clo_en) (fitsM_cons (clo_one b.clo_en) (fitsM_cons (clo_rows TPiece.clo_en) (FitsM.nil _)))))))
    | (have _ := hQ; exact Fin.one rfl (RV.tmp (by rfl)) (clo_list TPiece.clo_en) ⟨rfl, rfl⟩)

theorem pcs_s_t (f : TFeature) (b : TBox) (hgd : f.gd) (hf : isFeat f = true) (hk : (f.kind == 1) = true) (hin : inBoxB b (pt0 f) = true) : VCalls Tryz.prog 112 [.agg f.en, .ro 4 ((partsOf f).map TSegment.en), .agg b.en] (fun r M => r = .ro 2 ((pcs f b).map TPiece.en) ∧ M = []) := by
  refine VB Tryz.func112 42 (fun E hE => ?_)
  have hclP : Clo (.ro 2 (f.points.map TPoint.en)) := clo_list TPoint.clo_en
  have hclS : Clo (.ro 4 ((partsOf f).map TSegment.en)) := clo_list TSegment.clo_en
  have hcle : Clo (.agg f.en) := Clo.agg f.clo_en
  have hpl := partsOf_le f
  have hb0 := base_t hk hin
  have hp0 := feat_pt hf hk
  have hcl1 : Clo (.ro 2 (([⟨f.id, 0⟩] : List TPiece).map TPiece.en)) := clo_list TPiece.clo_en
  repeat' ((first
    | (refine iAL ?_; first | refine AL.any ?_ | refine AL.U ?_ | refine AL.F ?_ | refine AL.T ?_ | refine AL.T (h := POp.k Tryz.func176 (hc := inBox_s b (pt0 f))) ?_ | refine AL.W ?_ | refine AL.W (h := fun h => by (try rw [h]); exact POp.k Tryz.func176 (hc := inBox_s b (pt0 f))) ?_ | refine AL.nil ?_)
    | ((with_reducible show DL ..); first | refine DL.any ?_ | refine DL.U ?_ | refine DL.F ?_ | refine DL.T ?_ | refine DL.W ?_ | refine DL.nil ?_)
    | (refine iAW ?_; first | (refine AW.freezeRet (t := 6) (id := 3) rfl rfl rfl rfl (clo_rows_b rfl) ?_; (try simp only [List.take_length]); try dsimp only [dput, List.set, cond_true, cond_false, Nat.zero_add, Nat.add_zero, Nat.reduceAdd, splice, List.take, List.drop, List.length, List.nil_append, List.cons_append, List.append, TPoint.en, TSegment.en, TBox.en, TFeature.en, TMeet.en, TPlace.en, TCover.en, TLabel.en, TPiece.en, TLevel.en, TChart.en, TReason.en, TEdit.en, TEntry.en, TEdition.en, TListing.en, TAtlas.en, TEvent.en, TWindow.en]) | (refine AW.c0 ?_; constructor) | refine AW.dr (id := 2) 9 ?_ | refine AW.dr (id := 7) 5 ?_ | refine AW.cT ?_ | refine AW.cF ?_ | (refine AW.c2 ?_ ?_ <;> (intro h; try simp only [bT, bF] at h)))
    | with_reducible refine ifP ?_
    | with_reducible refine ifN ?_) <;> (try dsimp only))
  all_goals exact Fin.one rfl (RV.tmp (by rfl)) hcl1 ⟨by unfold pcs; rw [parts_k1 hk, List.length_nil, base_t hk hin] <;> rfl, rfl⟩

theorem pcs_s (f : TFeature) (b : TBox) (hgd : f.gd) (hf : isFeat f = true) : VCalls Tryz.prog 112 [.agg f.en, .ro 4 ((partsOf f).map TSegment.en), .agg b.en] (fun r M => r = .ro 2 ((pcs f b).map TPiece.en) ∧ M = []) := by
  cases hk : (f.kind == 1)
  · exact pcs_s_f f b hgd hf hk
  · cases hin : inBoxB b (pt0 f)
    · exact pcs_s_n f b hgd hf hk hin
    · exact pcs_s_t f b hgd hf hk hin
theorem pcs_i_f (f : TFeature) (b : TBox) (hgd : f.gd) (hf : isFeat f = true) (hk : (f.kind == 1) = false) : VCalls Tryz.prog 121 [.agg f.en, .agg b.en, B false] (fun r M => r = .ro 2 ((pcs f b).map TPiece.en) ∧ M = []) := by
  refine VB Tryz.func121 51 (fun E hE => ?_)
  have hclP : Clo (.ro 2 (f.points.map TPoint.en)) := clo_list TPoint.clo_en
  have hclS : Clo (.ro 4 ((partsOf f).map TSegment.en)) := clo_list TSegment.clo_en
  have hcle : Clo (.agg f.en) := Clo.agg f.clo_en
  have hpl := partsOf_le f
  have hb0 := base_f (b := b) hk
  repeat' ((first
    | (refine iAL ?_; first | refine AL.any ?_ | refine AL.any (h := POp.k Tryz.func184 (hc := parts_i f (by assumption))) ?_ | refine AL.U ?_ | refine AL.F ?_ | refine AL.T ?_ | refine AL.T (h := POp.k Tryz.func183 (hc := inBox_i b (pt0 f))) ?_ | refine AL.T (h := POp.k Tryz.func185 (hc := meets_i x b)) ?_ | refine AL.W ?_ | refine AL.W (h := fun h => by (try rw [h]); exact POp.k Tryz.func183 (hc := inBox_i b (pt0 f))) ?_ | refine AL.W (h := fun h => by (try rw [h]); exact POp.k Tryz.func185 (hc := meets_i x b)) ?_ | refine AL.nil ?_)
    | ((with_reducible show DL ..); first | refine DL.any ?_ | refine DL.U ?_ | refine DL.F ?_ | refine DL.T ?_ | refine DL.W ?_ | refine DL.nil ?_)
    | (refine iAW ?_; first | (refine AW.freezeRet (t := 6) (id := 2) rfl rfl rfl rfl (clo_rows TPiece.clo_en) ?_; (try simp only [List.take_length]); try dsimp only [dput, List.set, cond_true, cond_false, Nat.zero_add, Nat.add_zero, Nat.reduceAdd, splice, List.take, List.drop, List.length, List.nil_append, List.cons_append, List.append, TPoint.en, TSegment.en, TBox.en, TFeature.en, TMeet.en, TPlace.en, TCover.en, TLabel.en, TPiece.en, TLevel.en, TChart.en, TReason.en, TEdit.en, TEntry.en, TEdition.en, TListing.en, TAtlas.en, TEvent.en, TWindow.en]) | (refine AW.c0 ?_; constructor) | refine AW.dr (id := 2) 11 ?_ | refine AW.cT ?_ | refine AW.cF ?_ | (refine AW.c2 ?_ ?_ <;> (intro h; try simp only [bT, bF] at h)))
    | (refine AW.loopX hE (fun i : Nat => [.any, .any, B false, .ref 0 0 5 0 0, .ref 1 0 4 0 0, .any, .any, .own 2 (pcTo f b i).length, .any, .any, .any, .any, .any, .any, .any, .any, .any, .any, .any, .any, .any, .any, .any, .any, .any, .any, .any, .any, .any, .any, .any, .any, .ro 4 ((partsOf f).map TSegment.en), I (((partsOf f).map TSegment.en).length : Int), I (i : Int), .any, .any, .any, .any, .any, .any, .any, .any, .any, .any, .any, .any, .any, .any, .any, .any, .any, .any, .any]) (fun i => [some ⟨81, 5, 0, true, [f.en]⟩, some ⟨143, 4, 0, true, [b.en]⟩, some ⟨87, 2, (pcTo f b i).length, false, (pcTo f b i).map TPiece.en⟩]) (fun i => (partsOf f).length - i) (fun i => i ≤ (partsOf f).length) 0 _ (by simp) ?_ (by first | rfl | (rw [hb0]; rfl)) ?_ ?_ ?_
       rotate_left 1
       (focus (exact fitsA))
       (focus (exact fitsM_cons (clo_one f.clo_en) (fitsM_cons (clo_one b.clo_en) (fitsM_cons (clo_rows TPiece.clo_en) (FitsM.nil _)))))
       rotate_right 1
       (focus ((repeat' (first | exact Wk.nil | refine Wk.any ?_ | (with_reducible refine Wk.same ?_) | refine Wk.of ?_ ?_)) <;> first | rfl | (simp_all)))
       intro i hi
       by_cases hlt : i < (partsOf f).length
       case' pos =>
         have hP := True.intro
         obtain ⟨x, hx⟩ : ∃ x, (partsOf f)[i]? = some x := ⟨_, List.getElem?_eq_getElem hlt⟩
         have hg := map_get (f := TSegment.en) hx
         have ht := lt_true (f := TSegment.en) hlt
         have hn := next_ix hlt (by omega)
         have hln := pcTo_len f b i
         rcases pc_cases (b := b) hx with ⟨hm, h1, h2⟩ | ⟨hm, h1, h2⟩
       case' neg =>
         have hQ := True.intro
         have ht := lt_false (f := TSegment.en) hlt
         have e : i = (partsOf f).length := by omega
         subst e
         try rw [List.take_length])
    | with_reducible refine ifP ?_
    | with_reducible refine ifN ?_) <;> (try dsimp only))
  all_goals first
    | (have _ := hP; (refine ⟨i + 1, _, hlt, by omega, ?_, by rw [h1, h2] <;> rfl, ?_, ?_⟩; (focus (exact wkN)); (focus (exact fitsA)); (focus (exact fitsM_cons (clo_one f.clo_en) (fitsM_cons (clo_one b.clo_en) (fitsM_cons (clo_rows TPiece.clo_en) (FitsM.nil _)))))))
    | (have _ := hQ; exact Fin.one rfl (RV.tmp (by rfl)) (clo_list TPiece.clo_en) ⟨rfl, rfl⟩)

theorem pcs_i_n (f : TFeature) (b : TBox) (hgd : f.gd) (hf : isFeat f = true) (hk : (f.kind == 1) = true) (hin : inBoxB b (pt0 f) = false) : VCalls Tryz.prog 121 [.agg f.en, .agg b.en, B false] (fun r M => r = .ro 2 ((pcs f b).map TPiece.en) ∧ M = []) := by
  refine VB Tryz.func121 51 (fun E hE => ?_)
  have hclP : Clo (.ro 2 (f.points.map TPoint.en)) := clo_list TPoint.clo_en
  have hclS : Clo (.ro 4 ((partsOf f).map TSegment.en)) := clo_list TSegment.clo_en
  have hcle : Clo (.agg f.en) := Clo.agg f.clo_en
  have hpl := partsOf_le f
  have hb0 := base_n hk hin
  have hp0 := feat_pt hf hk
  repeat' ((first
    | (refine iAL ?_; first | refine AL.any ?_ | refine AL.any (h := POp.k Tryz.func184 (hc := parts_i f (by assumption))) ?_ | refine AL.U ?_ | refine AL.F ?_ | refine AL.T ?_ | refine AL.T (h := POp.k Tryz.func183 (hc := inBox_i b (pt0 f))) ?_ | refine AL.T (h := POp.k Tryz.func185 (hc := meets_i x b)) ?_ | refine AL.W ?_ | refine AL.W (h := fun h => by (try rw [h]); exact POp.k Tryz.func183 (hc := inBox_i b (pt0 f))) ?_ | refine AL.W (h := fun h => by (try rw [h]); exact POp.k Tryz.func185 (hc := meets_i x b)) ?_ | refine AL.nil ?_)
    | ((with_reducible show DL ..); first | refine DL.any ?_ | refine DL.U ?_ | refine DL.F ?_ | refine DL.T ?_ | refine DL.W ?_ | refine DL.nil ?_)
    | (refine iAW ?_; first | (refine AW.freezeRet (t := 6) (id := 2) rfl rfl rfl rfl (clo_rows TPiece.clo_en) ?_; (try simp only [List.take_length]); try dsimp only [dput, List.set, cond_true, cond_false, Nat.zero_add, Nat.add_zero, Nat.reduceAdd, splice, List.take, List.drop, List.length, List.nil_append, List.cons_append, List.append, TPoint.en, TSegment.en, TBox.en, TFeature.en, TMeet.en, TPlace.en, TCover.en, TLabel.en, TPiece.en, TLevel.en, TChart.en, TReason.en, TEdit.en, TEntry.en, TEdition.en, TListing.en, TAtlas.en, TEvent.en, TWindow.en]) | (refine AW.c0 ?_; constructor) | refine AW.dr (id := 2) 11 ?_ | refine AW.cT ?_ | refine AW.cF ?_ | (refine AW.c2 ?_ ?_ <;> (intro h; try simp only [bT, bF] at h)))
    | (refine AW.loopX hE (fun i : Nat => [.any, .any, B false, .ref 0 0 5 0 0, .ref 1 0 4 0 0, .any, .any, .own 2 (pcTo f b i).length, .any, .any, .any, .any, .any, .any, .any, .any, .any, .any, .any, .any, .any, .any, .any, .any, .any, .any, .any, .any, .any, .any, .any, .any, .ro 4 ((partsOf f).map TSegment.en), I (((partsOf f).map TSegment.en).length : Int), I (i : Int), .any, .any, .any, .any, .any, .any, .any, .any, .any, .any, .any, .any, .any, .any, .any, .any, .any, .any, .any]) (fun i => [some ⟨81, 5, 0, true, [f.en]⟩, some ⟨143, 4, 0, true, [b.en]⟩, some ⟨87, 2, (pcTo f b i).length, false, (pcTo f b i).map TPiece.en⟩]) (fun i => (partsOf f).length - i) (fun i => i ≤ (partsOf f).length) 0 _ (by simp) ?_ (by first | rfl | (rw [hb0]; rfl)) ?_ ?_ ?_
       rotate_left 1
       (focus (exact fitsA))
       (focus (exact fitsM_cons (clo_one f.clo_en) (fitsM_cons (clo_one b.clo_en) (fitsM_cons (clo_rows TPiece.clo_en) (FitsM.nil _)))))
       rotate_right 1
       (focus ((repeat' (first | exact Wk.nil | refine Wk.any ?_ | (with_reducible refine Wk.same ?_) | refine Wk.of ?_ ?_)) <;> first | rfl | (simp_all)))
       intro i hi
       by_cases hlt : i < (partsOf f).length
       case' pos =>
         have hP := True.intro
         obtain ⟨x, hx⟩ : ∃ x, (partsOf f)[i]? = some x := ⟨_, List.getElem?_eq_getElem hlt⟩
         have hg := map_get (f := TSegment.en) hx
         have ht := lt_true (f := TSegment.en) hlt
         have hn := next_ix hlt (by omega)
         have hln := pcTo_len f b i
         rcases pc_cases (b := b) hx with ⟨hm, h1, h2⟩ | ⟨hm, h1, h2⟩
       case' neg =>
         have hQ := True.intro
         have ht := lt_false (f := TSegment.en) hlt
         have e : i = (partsOf f).length := by omega
         subst e
         try rw [List.take_length])
    | with_reducible refine ifP ?_
    | with_reducible refine ifN ?_) <;> (try dsimp only))
  all_goals first
    | (have _ := hP; (refine ⟨i + 1, _, hlt, by omega, ?_, by rw [h1, h2] <;> rfl, ?_, ?_⟩; (focus (exact wkN)); (focus (exact fitsA)); (focus (exact fitsM_cons (clo_one f.clo_en) (fitsM_cons (clo_one b.clo_en) (fitsM_cons (clo_rows TPiece.clo_en) (FitsM.nil _)))))))
    | (have _ := hQ; exact Fin.one rfl (RV.tmp (by rfl)) (clo_list TPiece.clo_en) ⟨rfl, rfl⟩)

theorem pcs_i_t (f : TFeature) (b : TBox) (hgd : f.gd) (hf : isFeat f = true) (hk : (f.kind == 1) = true) (hin : inBoxB b (pt0 f) = true) : VCalls Tryz.prog 121 [.agg f.en, .agg b.en, B false] (fun r M => r = .ro 2 ((pcs f b).map TPiece.en) ∧ M = []) := by
  refine VB Tryz.func121 51 (fun E hE => ?_)
  have hclP : Clo (.ro 2 (f.points.map TPoint.en)) := clo_list TPoint.clo_en
  have hclS : Clo (.ro 4 ((partsOf f).map TSegment.en)) := clo_list TSegment.clo_en
  have hcle : Clo (.agg f.en) := Clo.agg f.clo_en
  have hpl := partsOf_le f
  have hb0 := base_t hk hin
  have hp0 := feat_pt hf hk
  repeat' ((first
    | (refine iAL ?_; first | refine AL.any ?_ | refine AL.any (h := POp.k Tryz.func184 (hc := parts_i f (by assumption))) ?_ | refine AL.U ?_ | refine AL.F ?_ | refine AL.T ?_ | refine AL.T (h := POp.k Tryz.func183 (hc := inBox_i b (pt0 f))) ?_ | refine AL.T (h := POp.k Tryz.func185 (hc := meets_i x b)) ?_ | refine AL.W ?_ | refine AL.W (h := fun h => by (try rw [h]); exact POp.k Tryz.func183 (hc := inBox_i b (pt0 f))) ?_ | refine AL.W (h := fun h => by (try rw [h]); exact POp.k Tryz.func185 (hc := meets_i x b)) ?_ | refine AL.nil ?_)
    | ((with_reducible show DL ..); first | refine DL.any ?_ | refine DL.U ?_ | refine DL.F ?_ | refine DL.T ?_ | refine DL.W ?_ | refine DL.nil ?_)
    | (refine iAW ?_; first | (refine AW.freezeRet (t := 6) (id := 2) rfl rfl rfl rfl (clo_rows TPiece.clo_en) ?_; (try simp only [List.take_length]); try dsimp only [dput, List.set, cond_true, cond_false, Nat.zero_add, Nat.add_zero, Nat.reduceAdd, splice, List.take, List.drop, List.length, List.nil_append, List.cons_append, List.append, TPoint.en, TSegment.en, TBox.en, TFeature.en, TMeet.en, TPlace.en, TCover.en, TLabel.en, TPiece.en, TLevel.en, TChart.en, TReason.en, TEdit.en, TEntry.en, TEdition.en, TListing.en, TAtlas.en, TEvent.en, TWindow.en]) | (refine AW.c0 ?_; constructor) | refine AW.dr (id := 2) 11 ?_ | refine AW.cT ?_ | refine AW.cF ?_ | (refine AW.c2 ?_ ?_ <;> (intro h; try simp only [bT, bF] at h)))
    | (refine AW.loopX hE (fun i : Nat => [.any, .any, B false, .ref 0 0 5 0 0, .ref 1 0 4 0 0, .any, .any, .own 2 (pcTo f b i).length, .any, .any, .any, .any, .any, .any, .any, .any, .any, .any, .any, .any, .any, .any, .any, .any, .any, .any, .any, .any, .any, .any, .any, .any, .ro 4 ((partsOf f).map TSegment.en), I (((partsOf f).map TSegment.en).length : Int), I (i : Int), .any, .any, .any, .any, .any, .any, .any, .any, .any, .any, .any, .any, .any, .any, .any, .any, .any, .any, .any]) (fun i => [some ⟨81, 5, 0, true, [f.en]⟩, some ⟨143, 4, 0, true, [b.en]⟩, some ⟨87, 2, (pcTo f b i).length, false, (pcTo f b i).map TPiece.en⟩]) (fun i => (partsOf f).length - i) (fun i => i ≤ (partsOf f).length) 0 _ (by simp) ?_ (by first | rfl | (rw [hb0]; rfl)) ?_ ?_ ?_
       rotate_left 1
       (focus (exact fitsA))
       (focus (exact fitsM_cons (clo_one f.clo_en) (fitsM_cons (clo_one b.clo_en) (fitsM_cons (clo_rows TPiece.clo_en) (FitsM.nil _)))))
       rotate_right 1
       (focus ((repeat' (first | exact Wk.nil | refine Wk.any ?_ | (with_reducible refine Wk.same ?_) | refine Wk.of ?_ ?_)) <;> first | rfl | (simp_all)))
       intro i hi
       by_cases hlt : i < (partsOf f).length
       case' pos =>
         have hP := True.intro
         obtain ⟨x, hx⟩ : ∃ x, (partsOf f)[i]? = some x := ⟨_, List.getElem?_eq_getElem hlt⟩
         have hg := map_get (f := TSegment.en) hx
         have ht := lt_true (f := TSegment.en) hlt
         have hn := next_ix hlt (by omega)
         have hln := pcTo_len f b i
         rcases pc_cases (b := b) hx with ⟨hm, h1, h2⟩ | ⟨hm, h1, h2⟩
       case' neg =>
         have hQ := True.intro
         have ht := lt_false (f := TSegment.en) hlt
         have e : i = (partsOf f).length := by omega
         subst e
         try rw [List.take_length])
    | with_reducible refine ifP ?_
    | with_reducible refine ifN ?_) <;> (try dsimp only))
  all_goals first
    | (have _ := hP; (refine ⟨i + 1, _, hlt, by omega, ?_, by rw [h1, h2] <;> rfl, ?_, ?_⟩; (focus (exact wkN)); (focus (exact fitsA)); (focus (exact fitsM_cons (clo_one f.clo_en) (fitsM_cons (clo_one b.clo_en) (fitsM_cons (clo_rows TPiece.clo_en) (FitsM.nil _)))))))
    | (have _ := hQ; exact Fin.one rfl (RV.tmp (by rfl)) (clo_list TPiece.clo_en) ⟨rfl, rfl⟩)

theorem pcs_i (f : TFeature) (b : TBox) (hgd : f.gd) (hf : isFeat f = true) : VCalls Tryz.prog 121 [.agg f.en, .agg b.en, B false] (fun r M => r = .ro 2 ((pcs f b).map TPiece.en) ∧ M = []) := by
  cases hk : (f.kind == 1)
  · exact pcs_i_f f b hgd hf hk
  · cases hin : inBoxB b (pt0 f)
    · exact pcs_i_n f b hgd hf hk hin
    · exact pcs_i_t f b hgd hf hk hin
end Go.Proofs.YtpffahmmklpifaaGreat.Abs
