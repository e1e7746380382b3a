/- Part B of the walk over abstract states and of the functions' walks. -/
import Derived.Test.YtpffahmmklpifaaGreatWkStep
import Derived.Test.YtpffahmmklpifaaGreatBnA
import Derived.Lib.SlicesCompact
import Derived.Shelf.GgSortFunc.InsertionK
/- The walks of a line's segments. -/
namespace Go.Proofs.YtpffahmmklpifaaGreat.Abs
open Go.Proofs Go.RowKit
set_option linter.unusedVariables false
set_option linter.unusedSimpArgs false
set_option maxRecDepth 100000
set_option maxHeartbeats 2000000
attribute [local irreducible] OpA AL AW DL DLM DLR DLS QOp POp VCalls VCallsI
theorem segs_s (l : List TPoint) (hl : l.length ≤ 1048576) : VCalls Tryz.prog 173 [.ro 2 (l.map TPoint.en)] (fun r M => r = .ro 4 ((segs l).map TSegment.en) ∧ M = []) := by
  refine VB Tryz.func173 29 (fun E hE => ?_)
  have hclo : Clo (.ro 2 (l.map TPoint.en)) := clo_list TPoint.clo_en
  repeat' ((first
    | (refine iAL ?_; first | refine AL.any ?_ | refine AL.U ?_ | refine AL.F ?_ | refine AL.T ?_ | refine AL.T (h := POp.k Tryz.func238 (hc := isLine_s _ (by assumption))) ?_ | refine AL.W ?_ | refine AL.W (h := fun h => by (try rw [h]); exact POp.k Tryz.func238 (hc := isLine_s _ (by assumption))) ?_ | refine AL.nil ?_)
    | ((with_reducible show DL ..); first | refine DL.any ?_ | refine DL.nil ?_)
    | ((with_reducible show DLM ..); first | refine DLM.any ?_ | refine DLM.mk ?_ | refine DLM.nil ?_)
    | (refine iAW ?_; first | (refine AW.freezeRet (t := 2) (id := 0) rfl rfl rfl rfl (clo_rows TSegment.clo_en) ?_; (try simp only [List.take_length]); try dsimp only [dput, List.set, cond_true, cond_false, Nat.zero_add, Nat.add_zero, Nat.reduceAdd, splice, List.take, List.drop, List.length, List.nil_append, List.cons_append, List.append, TPoint.en, TSegment.en, TBox.en, TFeature.en, TMeet.en, TPlace.en, TCover.en, TLabel.en, TPiece.en, TLevel.en, TChart.en, TReason.en, TEdit.en, TEntry.en, TEdition.en, TListing.en, TAtlas.en, TEvent.en, TWindow.en]) | (refine AW.c0 ?_; constructor) | refine AW.drM (id := 5) 12 11 ?_ | refine AW.cT ?_ | refine AW.cF ?_ | (refine AW.c2 ?_ ?_ <;> (intro h; try simp only [bT, bF] at h)))
    | (refine AW.loopD hE (fun i : Nat => [.ro 2 (l.map TPoint.en), .any, .any, .own 0 i, I ((i : Int) + 1), .any, .any, .any, .any, .any, .any, .any, .any, .any, .any, .any, .any, .any, .any, .any, .any, .any, .any, .any, .any, .any, .any, .any, .any, .any]) (fun i => [some ⟨200, 4, i, false, ((segs l).take i).map TSegment.en⟩]) (fun i => (segs l).length - i) (fun i => i ≤ (segs l).length) 0 (Nat.zero_le _) ?_ (by first | rfl | (simp [fil_zero]; done)) ?_
       (focus (exact wkI))
       intro i hi
       have hsl := segs_le l
       by_cases hlt : i < (segs l).length
       case' pos =>
         have hP := True.intro
         obtain ⟨a, b, hL, hi1, ha, hb, hs⟩ := segs_get hlt
         have ht : (decide ((i : Int) + 1 < ((l.map TPoint.en).length : Int)) && isLine l) = true := by simp [hL]; omega
         have e1 : IntKind.i64.wrap ((i : Int) + 1 - 1) = (i : Int) := by rw [w64 (by omega) (by omega)]; omega
         have h0 : 0 ≤ IntKind.i64.wrap ((i : Int) + 1 - 1) := by omega
         have hga : (l.map TPoint.en)[(IntKind.i64.wrap ((i : Int) + 1 - 1)).toNat]? = some a.en := by rw [e1]; exact map_get ha
         have hgb : (l.map TPoint.en)[((i : Int) + 1).toNat]? = some b.en := by rw [show ((i : Int) + 1).toNat = i + 1 by omega, List.getElem?_map, hb]; rfl
         have h01 : 0 ≤ (i : Int) + 1 := by omega
         have hn : IntKind.i64.wrap ((i : Int) + 1 + 1) = ((i + 1 : Nat) : Int) + 1 := by rw [w64 (by omega) (by omega)]; omega
         have hm := map_take_succ (f := TSegment.en) hs
       case' neg =>
         have hQ := True.intro
         have e : i = (segs l).length := by omega
         have hsl := segs_le l
         have ht : (decide ((i : Int) + 1 < ((l.map TPoint.en).length : Int)) && isLine l) = false := by
           cases hL : isLine l
           · simp_all
           · have := segs_len hL; have := isLine_len hL; simp; omega
         subst e)
    | with_reducible refine ifP ?_
    | with_reducible refine ifN ?_) <;> (try dsimp only))
  all_goals first
    | (have _ := hP; (refine ⟨i + 1, _, hlt, by omega, ?_, by rw [hm] <;> rfl, ?_, ?_⟩; (focus (exact wkN)); (focus (exact fitsA)); (focus (exact fits_row (clo_rows TSegment.clo_en)))))
    | (have _ := hQ; exact Fin.one rfl (RV.tmp (by rfl)) (clo_list TSegment.clo_en) ⟨rfl, rfl⟩)

theorem segs_i (l : List TPoint) (hl : l.length ≤ 1048576) : VCalls Tryz.prog 246 [.ro 2 (l.map TPoint.en)] (fun r M => r = .ro 4 ((segs l).map TSegment.en) ∧ M = []) := by
  refine VB Tryz.func246 29 (fun E hE => ?_)
  have hclo : Clo (.ro 2 (l.map TPoint.en)) := clo_list TPoint.clo_en
  repeat' ((first
    | (refine iAL ?_; first | refine AL.any ?_ | refine AL.any (h := POp.k Tryz.func245 (hc := isLine_i _ (by assumption))) ?_ | refine AL.nil ?_)
    | ((with_reducible show DL ..); first | refine DL.any ?_ | refine DL.nil ?_)
    | ((with_reducible show DLM ..); first | refine DLM.any ?_ | refine DLM.mk ?_ | refine DLM.nil ?_)
    | (refine iAW ?_; first | (refine AW.freezeRet (t := 2) (id := 0) rfl rfl rfl rfl clo_rows_nil ?_; (try simp only [List.take_length]); try dsimp only [dput, List.set, cond_true, cond_false, Nat.zero_add, Nat.add_zero, Nat.reduceAdd, splice, List.take, List.drop, List.length, List.nil_append, List.cons_append, List.append, TPoint.en, TSegment.en, TBox.en, TFeature.en, TMeet.en, TPlace.en, TCover.en, TLabel.en, TPiece.en, TLevel.en, TChart.en, TReason.en, TEdit.en, TEntry.en, TEdition.en, TListing.en, TAtlas.en, TEvent.en, TWindow.en]) | (refine AW.freezeRet (t := 2) (id := 0) rfl rfl rfl rfl (clo_rows TSegment.clo_en) ?_; (try simp only [List.take_length]); try dsimp only [dput, List.set, cond_true, cond_false, Nat.zero_add, Nat.add_zero, Nat.reduceAdd, splice, List.take, List.drop, List.length, List.nil_append, List.cons_append, List.append, TPoint.en, TSegment.en, TBox.en, TFeature.en, TMeet.en, TPlace.en, TCover.en, TLabel.en, TPiece.en, TLevel.en, TChart.en, TReason.en, TEdit.en, TEntry.en, TEdition.en, TListing.en, TAtlas.en, TEvent.en, TWindow.en]) | (refine AW.c0 ?_; constructor) | refine AW.drM (id := 7) 12 11 ?_ | refine AW.cT ?_ | refine AW.cF ?_ | (refine AW.c2 ?_ ?_ <;> (intro h; try simp only [bT, bF] at h)))
    | (refine AW.loopD hE (fun i : Nat => [.ro 2 (l.map TPoint.en), .any, .any, .own 0 i, I ((i : Int) + 1), .any, .any, .any, .any, .any, .any, .any, .any, .any, .any, .any, .any, .any, .any, .any, .any, .any, .any, .any, .any, .any, .any, .any, .any, .any]) (fun i => [some ⟨200, 4, i, false, ((segs l).take i).map TSegment.en⟩]) (fun i => (segs l).length - i) (fun i => i ≤ (segs l).length) 0 (Nat.zero_le _) ?_ (by first | rfl | (simp [fil_zero]; done)) ?_
       (focus (exact wkI))
       intro i hi
       have hsl := segs_le l
       by_cases hlt : i < (segs l).length
       case' pos =>
         have hP := True.intro
         obtain ⟨a, b, hL, hi1, ha, hb, hs⟩ := segs_get hlt
         have ht : decide ((i : Int) + 1 < ((l.map TPoint.en).length : Int)) = true := by simp []; omega
         have e1 : IntKind.i64.wrap ((i : Int) + 1 - 1) = (i : Int) := by rw [w64 (by omega) (by omega)]; omega
         have h0 : 0 ≤ IntKind.i64.wrap ((i : Int) + 1 - 1) := by omega
         have hga : (l.map TPoint.en)[(IntKind.i64.wrap ((i : Int) + 1 - 1)).toNat]? = some a.en := by rw [e1]; exact map_get ha
         have hgb : (l.map TPoint.en)[((i : Int) + 1).toNat]? = some b.en := by rw [show ((i : Int) + 1).toNat = i + 1 by omega, List.getElem?_map, hb]; rfl
         have h01 : 0 ≤ (i : Int) + 1 := by omega
         have hn : IntKind.i64.wrap ((i : Int) + 1 + 1) = ((i + 1 : Nat) : Int) + 1 := by rw [w64 (by omega) (by omega)]; omega
         have hm := map_take_succ (f := TSegment.en) hs
       case' neg =>
         have hQ := True.intro
         have e : i = (segs l).length := by omega
         have hsl := segs_le l
         have ht : decide ((i : Int) + 1 < ((l.map TPoint.en).length : Int)) = false := by
           cases hL : isLine l
           · simp_all
           · have := segs_len hL; have := isLine_len hL; simp; omega
         subst e)
    | with_reducible refine ifP ?_
    | with_reducible refine ifN ?_) <;> (try dsimp only))
  all_goals first
    | (have _ := hP; (refine ⟨i + 1, _, hlt, by omega, ?_, by rw [hm] <;> rfl, ?_, ?_⟩; (focus (exact wkN)); (focus (exact fitsA)); (focus (exact fits_row (clo_rows TSegment.clo_en)))))
    | (have _ := hQ; exact Fin.one rfl (RV.tmp (by rfl)) (clo_list TSegment.clo_en) ⟨rfl, rfl⟩)
    | (exact Fin.one rfl (RV.tmp (by rfl)) (Clo.ro fun r hr => by simp at hr) ⟨by rw [segs_nil (by assumption)]; rfl, rfl⟩)

def wantL (i k : Nat) : Int := if k + 1 = i then 1 else 0
def gAt (l : List TPoint) (i : Nat) : TSegment := (segs l).getD i ⟨⟨0, 0⟩, ⟨0, 0⟩⟩
theorem gAt_of {l : List TPoint} {i : Nat} {x : TSegment} (h : (segs l)[i]? = some x) : gAt l i = x := by simp [gAt, List.getD_eq_getElem?_getD, h]
def smIn (l : List TPoint) (i n : Nat) : Bool := (List.range n).all fun k => hmI (gAt l i) (gAt l k) == wantL i k
def smOk (l : List TPoint) (n : Nat) : Bool := (List.range n).all fun i => smIn l i i
theorem smIn_succ (l : List TPoint) (i k : Nat) : smIn l i (k + 1) = (smIn l i k && (hmI (gAt l i) (gAt l k) == wantL i k)) := by simp [smIn, List.range_succ]
theorem smOk_succ (l : List TPoint) (i : Nat) : smOk l (i + 1) = (smOk l i && smIn l i i) := by simp [smOk, List.range_succ]
theorem smIn_not {l : List TPoint} {i k n : Nat} (h : (hmI (gAt l i) (gAt l k) == wantL i k) = false) (hk : k < n) : smIn l i n = false := by
  simp only [smIn, List.all_eq_false, List.mem_range]
  exact ⟨k, hk, by simp [h]⟩
theorem smOk_not {l : List TPoint} {i n : Nat} (h : smIn l i i = false) (hi : i < n) : smOk l n = false := by
  simp only [smOk, List.all_eq_false, List.mem_range]
  exact ⟨i, hi, by simp [h]⟩
def isSimple (l : List TPoint) : Bool := isLine l && smOk l (segs l).length
theorem wantL_s {i k : Nat} (hk : k < i) (hi : i ≤ 1048576) : ((IntKind.i64.wrap ((k : Int) + 1) == (i : Int)) = true ∧ wantL i k = 1) ∨ ((IntKind.i64.wrap ((k : Int) + 1) == (i : Int)) = false ∧ wantL i k = 0) := by
  rw [w64 (n := (k : Int) + 1) (by omega) (by omega)]
  unfold wantL
  simp only [beq_iff_eq, beq_eq_false_iff_ne, ne_eq]
  by_cases q1 : k + 1 = i
  · exact .inl ⟨by omega, by simp [q1]⟩
  · exact .inr ⟨by omega, by simp [q1]⟩
theorem wantL_i {i k : Nat} (hk : k < i) (hi : i ≤ 1048576) : (((k : Int) == IntKind.i64.wrap ((i : Int) - 1)) = true ∧ wantL i k = 1) ∨ (((k : Int) == IntKind.i64.wrap ((i : Int) - 1)) = false ∧ wantL i k = 0) := by
  have e1 : ((k : Int) == IntKind.i64.wrap ((i : Int) - 1)) = (IntKind.i64.wrap ((k : Int) + 1) == (i : Int)) := by
    rw [w64 (n := (k : Int) + 1) (by omega) (by omega), w64 (n := (i : Int) - 1) (by omega) (by omega), Bool.eq_iff_iff]
    simp only [beq_iff_eq]
    omega
  rw [e1]
  exact wantL_s hk hi
def nmAt (s : ByteArray) (i : Nat) : Bool := match s[i]? with
  | none => false
  | some b => !(decide (((b.toNat : Nat) : Int) < 97) || decide (((b.toNat : Nat) : Int) > 122))
def nmTo (s : ByteArray) (n : Nat) : Bool := (List.range n).all (nmAt s)
theorem nmTo_succ (s : ByteArray) (i : Nat) : nmTo s (i + 1) = (nmTo s i && nmAt s i) := by simp [nmTo, List.range_succ]
theorem nmTo_not {s : ByteArray} {i n : Nat} (h : nmAt s i = false) (hi : i < n) : nmTo s n = false := by
  simp only [nmTo, List.all_eq_false, List.mem_range]
  exact ⟨i, hi, by simp [h]⟩
theorem byte_get {s : ByteArray} {i : Nat} (h : i < s.size) : ∃ b : UInt8, s[i]? = some b ∧ s[((i : Nat) : Int).toNat]? = some b := ⟨s[i], by simp [h], by rw [Int.toNat_natCast]; simp [h]⟩
theorem nmAt_some {s : ByteArray} {i : Nat} {b : UInt8} (h : s[i]? = some b) : nmAt s i = !(decide (((b.toNat : Nat) : Int) < 97) || decide (((b.toNat : Nat) : Int) > 122)) := by simp [nmAt, h]
theorem bytes_lt {s : ByteArray} {i : Nat} (h : i < s.size) : decide ((i : Int) < (s.size : Int)) = true := by simp; omega
theorem bytes_ge {s : ByteArray} {i : Nat} (h : ¬ i < s.size) : decide ((i : Int) < (s.size : Int)) = false := by simp; omega
def isName (s : ByteArray) : Bool := nmTo s s.size && inr s.size 1 8
abbrev noName (s : ByteArray) : Bool := s.toList == (⟨#[]⟩ : ByteArray).toList
def kindOk (x : TFeature) : Bool := if (x.kind == 1) = true then ((x.points.length : Int) == 1) && isp (x.points.getD 0 ⟨0, 0⟩).x (x.points.getD 0 ⟨0, 0⟩).y else if (x.kind == 2) = true then isSimple x.points else if (x.kind == 3) = true then isRing x.points else false
theorem len1 (l : List TPoint) : ((((l.map TPoint.en).length : Int) == 1) = true ∧ ((l.length : Int) == 1) = true ∧ (l.map TPoint.en)[((0 : Int)).toNat]? = some (l.getD 0 ⟨0, 0⟩).en) ∨ ((((l.map TPoint.en).length : Int) == 1) = false ∧ ((l.length : Int) == 1) = false) := by
  rw [List.length_map]
  cases h : ((l.length : Int) == 1)
  · exact .inr ⟨rfl, rfl⟩
  · refine .inl ⟨rfl, rfl, ?_⟩
    cases l with
    | nil => simp at h
    | cons a l => rfl
theorem feat_cases (x : TFeature) : inr x.id 1 99 = false ∨ (inr x.id 1 99 = true ∧ inr x.rank 0 9 = false) ∨ (inr x.id 1 99 = true ∧ inr x.rank 0 9 = true ∧ noName x.name = false ∧ isName x.name = false) ∨
    (inr x.id 1 99 = true ∧ inr x.rank 0 9 = true ∧ noName x.name = true) ∨ (inr x.id 1 99 = true ∧ inr x.rank 0 9 = true ∧ noName x.name = false ∧ isName x.name = true) := by
  cases inr x.id 1 99 <;> cases inr x.rank 0 9 <;> cases noName x.name <;> cases isName x.name <;> simp
def isFeat (x : TFeature) : Bool := inr x.id 1 99 && inr x.rank 0 9 && (noName x.name || isName x.name) && kindOk x
def TFeature.gd (x : TFeature) : Prop := x.points.length ≤ 1048576 ∧ x.name.size ≤ maxLen
def prevF (l : List TFeature) (i : Nat) : TFeature := l.getD (i - 1) ⟨0, 0, 0, ⟨#[]⟩, []⟩
def srcAt (l : List TFeature) (i : Nat) : Bool := match l[i]? with
  | none => false
  | some x => isFeat x && (i == 0 || decide ((prevF l i).id < x.id))
def srcOk (l : List TFeature) (n : Nat) : Bool := (List.range n).all (srcAt l)
theorem srcOk_succ (l : List TFeature) (i : Nat) : srcOk l (i + 1) = (srcOk l i && srcAt l i) := by simp [srcOk, List.range_succ]
theorem srcOk_not {l : List TFeature} {i n : Nat} (h : srcAt l i = false) (hi : i < n) : srcOk l n = false := by
  simp only [srcOk, List.all_eq_false, List.mem_range]
  exact ⟨i, hi, by simp [h]⟩
def isSource (l : List TFeature) : Bool := srcOk l l.length && decide ((l.length : Int) ≤ 16)
def partsOf (x : TFeature) : List TSegment := if isFeat x = true then (if (x.kind == 2) = true then segs x.points else if (x.kind == 3) = true then ringSegs x.points else []) else []
theorem partsOf_le (x : TFeature) : (partsOf x).length ≤ 10 := by
  have h1 := segs_le x.points
  have h2 := ringSegs_le x.points
  unfold partsOf
  repeat' split
  all_goals first | omega | simp
theorem src_cases {l : List TFeature} {i : Nat} {x : TFeature} (hx : l[i]? = some x) (hl : l.length ≤ 1048576) :
    (isFeat x = false ∧ srcAt l i = false) ∨ (isFeat x = true ∧ decide ((i : Int) > 0) = false ∧ srcAt l i = true) ∨
    (isFeat x = true ∧ decide ((i : Int) > 0) = true ∧ 0 ≤ IntKind.i64.wrap ((i : Int) - 1) ∧ (l.map TFeature.en)[(IntKind.i64.wrap ((i : Int) - 1)).toNat]? = some (prevF l i).en ∧ srcAt l i = decide ((prevF l i).id < x.id)) := by
  have hi := (List.getElem?_eq_some_iff.1 hx).1
  cases hI : isFeat x
  · exact .inl ⟨rfl, by simp [srcAt, hx, hI]⟩
  · rcases Nat.eq_zero_or_pos i with h0 | h0
    · subst h0
      exact .inr (.inl ⟨rfl, by simp, by simp [srcAt, hx, hI]⟩)
    · have e : IntKind.i64.wrap ((i : Int) - 1) = ((i - 1 : Nat) : Int) := by rw [w64 (by omega) (by omega)]; omega
      refine .inr (.inr ⟨rfl, decide_eq_true (by omega), by omega, ?_, ?_⟩)
      · rw [e, Int.toNat_natCast, List.getElem?_map, List.getElem?_eq_getElem (show i - 1 < l.length by omega)]
        simp [prevF, List.getD_eq_getElem?_getD, List.getElem?_eq_getElem (show i - 1 < l.length by omega)]
      · have : (i == 0) = false := by simp; omega
        simp [srcAt, hx, hI, this]

theorem isSimple_s (l : List TPoint) (hl : l.length ≤ 1048576) : VCalls Tryz.prog 171 [.ro 2 (l.map TPoint.en)] (fun r M => r = B (isSimple l) ∧ M = []) := by
  refine VB Tryz.func171 36 (fun E hE => ?_)
  have hclo : Clo (.ro 2 (l.map TPoint.en)) := clo_list TPoint.clo_en
  have hclS : Clo (.ro 4 ((segs l).map TSegment.en)) := clo_list TSegment.clo_en
  have hsl := segs_le l
  have hclo : Clo (.ro 2 (l.map TPoint.en)) := clo_list TPoint.clo_en
  have hclS : Clo (.ro 4 ((segs l).map TSegment.en)) := clo_list TSegment.clo_en
  have hsl := segs_le l
  repeat' ((first
    | (refine iAL ?_; first | refine AL.any ?_ | refine AL.any (h := POp.k Tryz.func173 (hc := segs_s _ (by assumption))) ?_ | refine AL.any (h := POp.k Tryz.func238 (hc := isLine_s _ (by assumption))) ?_ | refine AL.nil ?_)
    | ((with_reducible show DL ..); first | refine DL.any ?_ | refine DL.any (h := POp.k Tryz.func223 (hc := meet_s x y)) ?_ | refine DL.nil ?_)
    | (refine iAW ?_; first | (refine AW.c0 ?_; constructor) | (refine AW.loopD hE (fun i : Nat => [.ro 2 (l.map TPoint.en), .any, .any, .ro 4 ((segs l).map TSegment.en), I (i : Int), .any, .any, .any, .any, .any, .any, .any, .any, .any, .any, .any, .any, .any, .any, .any, .any, .any, .any, .any, .any, .any, .any, .any, .any, .any, .any, .any, .any, .any, .any, .any, .any]) (fun i => []) (fun i => (segs l).length - i) (fun i => i ≤ (segs l).length ∧ smOk l i = true) 0 ⟨Nat.zero_le _, by simp [smOk]⟩ ?_ (by first | rfl | (simp; done)) ?_) | refine AW.dr (id := 11) 10 ?_ | refine AW.cT ?_ | refine AW.cF ?_ | (refine AW.c2 ?_ ?_ <;> (intro h; try simp only [bT, bF] at h)))
    | with_reducible refine ifP ?_
    | with_reducible refine ifN ?_) <;> (try dsimp only))
  · (repeat' (first | exact Wk.nil | refine Wk.any ?_ | (with_reducible refine Wk.same ?_) | refine Wk.of ?_ ?_)) <;> first | rfl | (simp; done)
  · intro i hv_i
    have hclo : Clo (.ro 2 (l.map TPoint.en)) := clo_list TPoint.clo_en
    have hclS : Clo (.ro 4 ((segs l).map TSegment.en)) := clo_list TSegment.clo_en
    have hsl := segs_le l
    by_cases hlt_i : i < (segs l).length
    · skip
      obtain ⟨x, hx⟩ : ∃ x, (segs l)[i]? = some x := ⟨_, List.getElem?_eq_getElem hlt_i⟩
      have hgx := map_get (f := TSegment.en) hx
      have hti := lt_true (f := TSegment.en) hlt_i
      have hni := next_ix hlt_i (by omega)
      have hro := smOk_succ l i
      have hsx := gAt_of hx
      repeat' ((first
        | (refine iAL ?_; first | refine AL.any ?_ | refine AL.any (h := POp.k Tryz.func173 (hc := segs_s _ (by assumption))) ?_ | refine AL.any (h := POp.k Tryz.func238 (hc := isLine_s _ (by assumption))) ?_ | refine AL.nil ?_)
        | ((with_reducible show DL ..); first | refine DL.any ?_ | refine DL.any (h := POp.k Tryz.func223 (hc := meet_s x y)) ?_ | refine DL.nil ?_)
        | (refine iAW ?_; first | (refine AW.c0 ?_; constructor) | (refine AW.loopD hE (fun k : Nat => [.ro 2 (l.map TPoint.en), .any, .any, .ro 4 ((segs l).map TSegment.en), I (i : Int), I (k : Int), .any, .any, .any, .any, .any, .any, .any, .any, .any, .any, .any, .any, .any, .any, .any, .any, .any, .any, .any, .any, .any, .any, .any, .any, .any, .any, .any, .any, .any, .any, .any]) (fun k => []) (fun k => i - k) (fun k => k ≤ i ∧ smIn l i k = true) 0 ⟨Nat.zero_le _, by simp [smIn]⟩ ?_ (by first | rfl | (simp; done)) ?_) | refine AW.dr (id := 11) 10 ?_ | refine AW.cT ?_ | refine AW.cF ?_ | (refine AW.c2 ?_ ?_ <;> (intro h; try simp only [bT, bF] at h)))
        | with_reducible refine ifP ?_
        | with_reducible refine ifN ?_) <;> (try dsimp only))
      · (repeat' (first | exact Wk.nil | refine Wk.any ?_ | (with_reducible refine Wk.same ?_) | refine Wk.of ?_ ?_)) <;> first | rfl | (simp; done)
      · intro k hv_k
        have hclo : Clo (.ro 2 (l.map TPoint.en)) := clo_list TPoint.clo_en
        have hclS : Clo (.ro 4 ((segs l).map TSegment.en)) := clo_list TSegment.clo_en
        have hsl := segs_le l
        by_cases hlt_k : k < i
        · skip
          obtain ⟨y, hy⟩ : ∃ y, (segs l)[k]? = some y := ⟨_, List.getElem?_eq_getElem (by omega)⟩
          have hgy := map_get (f := TSegment.en) hy
          have htk : decide ((k : Int) < (i : Int)) = true := by simp; omega
          have hnk := next_ix hlt_k (by omega)
          have hsy := gAt_of hy
          have hrk : smIn l i (k + 1) = (smIn l i k && (hmI x y == wantL i k)) := by rw [smIn_succ, hsx, hsy]
          rcases wantL_s (i := i) (k := k) hlt_k (by omega) with ⟨w1, wN⟩ | ⟨w1, wN⟩
          all_goals
            repeat' ((first
              | (refine iAL ?_; first | refine AL.any ?_ | refine AL.any (h := POp.k Tryz.func173 (hc := segs_s _ (by assumption))) ?_ | refine AL.any (h := POp.k Tryz.func238 (hc := isLine_s _ (by assumption))) ?_ | refine AL.nil ?_)
              | ((with_reducible show DL ..); first | refine DL.any ?_ | refine DL.any (h := POp.k Tryz.func223 (hc := meet_s x y)) ?_ | refine DL.nil ?_)
              | (refine iAW ?_; first | (refine AW.c0 ?_; constructor) | refine AW.dr (id := 11) 10 ?_ | refine AW.cT ?_ | refine AW.cF ?_ | (refine AW.c2 ?_ ?_ <;> (intro h; try simp only [bT, bF] at h)))
              | with_reducible refine ifP ?_
              | with_reducible refine ifN ?_) <;> (try dsimp only))
            all_goals first
              | (refine ⟨k + 1, _, ⟨hlt_k, by simp_all⟩, by omega, ?_, rfl, ?_, ?_⟩; (focus ((repeat' (first | exact Wk.nil | refine Wk.any ?_ | (with_reducible refine Wk.same ?_) | refine Wk.of ?_ ?_)) <;> (simp_all))); (focus (exact fitsA)); (focus (exact FitsM.nil _)))
              | exact Fin.one rfl (RV.tmp (by rfl)) (clo_c _) ⟨by have e1 := smIn_not (l := l) (i := i) (k := k) (n := i) (by simp_all) hlt_k; have e2 := smOk_not (l := l) (i := i) (n := (segs l).length) (by simp_all) (by omega); simp_all [isSimple], rfl⟩
        · have e_k : k = i := by omega
          have htk : decide ((k : Int) < (i : Int)) = false := by simp; omega
          have e2 := e_k.symm
          subst e2
          repeat' ((first
            | (refine iAL ?_; first | refine AL.any ?_ | refine AL.any (h := POp.k Tryz.func173 (hc := segs_s _ (by assumption))) ?_ | refine AL.any (h := POp.k Tryz.func238 (hc := isLine_s _ (by assumption))) ?_ | refine AL.nil ?_)
            | ((with_reducible show DL ..); first | refine DL.any ?_ | refine DL.any (h := POp.k Tryz.func223 (hc := meet_s x y)) ?_ | refine DL.nil ?_)
            | (refine iAW ?_; first | (refine AW.c0 ?_; constructor) | refine AW.dr (id := 11) 10 ?_ | refine AW.cT ?_ | refine AW.cF ?_ | (refine AW.c2 ?_ ?_ <;> (intro h; try simp only [bT, bF] at h)))
            | with_reducible refine ifP ?_
            | with_reducible refine ifN ?_) <;> (try dsimp only))
          all_goals first
            | (refine ⟨i + 1, _, ⟨hlt_i, by simp_all⟩, by omega, ?_, rfl, ?_, ?_⟩; (focus ((repeat' (first | exact Wk.nil | refine Wk.any ?_ | (with_reducible refine Wk.same ?_) | refine Wk.of ?_ ?_)) <;> (simp_all))); (focus (exact fitsA)); (focus (exact FitsM.nil _)))
    · have e_i : i = (segs l).length := by omega
      have hti := lt_false (f := TSegment.en) (show ¬ i < (segs l).length by omega)
      have e2 := e_i.symm
      subst e2
      repeat' ((first
        | (refine iAL ?_; first | refine AL.any ?_ | refine AL.any (h := POp.k Tryz.func173 (hc := segs_s _ (by assumption))) ?_ | refine AL.any (h := POp.k Tryz.func238 (hc := isLine_s _ (by assumption))) ?_ | refine AL.nil ?_)
        | ((with_reducible show DL ..); first | refine DL.any ?_ | refine DL.any (h := POp.k Tryz.func223 (hc := meet_s x y)) ?_ | refine DL.nil ?_)
        | (refine iAW ?_; first | (refine AW.c0 ?_; constructor) | refine AW.dr (id := 11) 10 ?_ | refine AW.cT ?_ | refine AW.cF ?_ | (refine AW.c2 ?_ ?_ <;> (intro h; try simp only [bT, bF] at h)))
        | with_reducible refine ifP ?_
        | with_reducible refine ifN ?_) <;> (try dsimp only))
      all_goals first
        | exact Fin.one rfl (RV.tmp (by rfl)) (clo_c _) ⟨by simp_all [isSimple], rfl⟩

theorem isSimple_i (l : List TPoint) (hl : l.length ≤ 1048576) : VCalls Tryz.prog 181 [.ro 2 (l.map TPoint.en)] (fun r M => r = B (isSimple l) ∧ M = []) := by
  refine VB Tryz.func181 37 (fun E hE => ?_)
  have hclo : Clo (.ro 2 (l.map TPoint.en)) := clo_list TPoint.clo_en
  have hclS : Clo (.ro 4 ((segs l).map TSegment.en)) := clo_list TSegment.clo_en
  have hsl := segs_le l
  have hclo : Clo (.ro 2 (l.map TPoint.en)) := clo_list TPoint.clo_en
  have hclS : Clo (.ro 4 ((segs l).map TSegment.en)) := clo_list TSegment.clo_en
  have hsl := segs_le l
  repeat' ((first
    | (refine iAL ?_; first | refine AL.any ?_ | refine AL.any (h := POp.k Tryz.func245 (hc := isLine_i _ (by assumption))) ?_ | refine AL.any (h := POp.k Tryz.func246 (hc := segs_i _ (by assumption))) ?_ | refine AL.nil ?_)
    | ((with_reducible show DL ..); first | refine DL.any ?_ | refine DL.any (h := POp.k Tryz.func247 (hc := meet_i x y)) ?_ | refine DL.nil ?_)
    | (refine iAW ?_; first | (refine AW.c0 ?_; constructor) | (refine AW.loopD hE (fun i : Nat => [.ro 2 (l.map TPoint.en), .any, .any, .ro 4 ((segs l).map TSegment.en), .any, .any, .any, .any, .any, .any, .any, .any, .any, I (((segs l).map TSegment.en).length : Int), I (i : Int), .any, .any, .any, .any, .any, .any, .any, .any, .any, .any, .any, .any, .any, .any, .any, .any, .any, .any, .any, .any, .any, .any, .any]) (fun i => []) (fun i => (segs l).length - i) (fun i => i ≤ (segs l).length ∧ smOk l i = true) 0 ⟨Nat.zero_le _, by simp [smOk]⟩ ?_ (by first | rfl | (simp; done)) ?_) | refine AW.dr (id := 13) 10 ?_ | refine AW.cT ?_ | refine AW.cF ?_ | (refine AW.c2 ?_ ?_ <;> (intro h; try simp only [bT, bF] at h)))
    | with_reducible refine ifP ?_
    | with_reducible refine ifN ?_) <;> (try dsimp only))
  any_goals first | exact Fin.one rfl (RV.tmp (by rfl)) (clo_c _) ⟨by simp_all [isSimple], rfl⟩
  · (repeat' (first | exact Wk.nil | refine Wk.any ?_ | (with_reducible refine Wk.same ?_) | refine Wk.of ?_ ?_)) <;> first | rfl | (simp; done)
  · intro i hv_i
    have hclo : Clo (.ro 2 (l.map TPoint.en)) := clo_list TPoint.clo_en
    have hclS : Clo (.ro 4 ((segs l).map TSegment.en)) := clo_list TSegment.clo_en
    have hsl := segs_le l
    by_cases hlt_i : i < (segs l).length
    · skip
      obtain ⟨x, hx⟩ : ∃ x, (segs l)[i]? = some x := ⟨_, List.getElem?_eq_getElem hlt_i⟩
      have hgx := map_get (f := TSegment.en) hx
      have hti := lt_true (f := TSegment.en) hlt_i
      have hni := next_ix hlt_i (by omega)
      have hro := smOk_succ l i
      have hsx := gAt_of hx
      repeat' ((first
        | (refine iAL ?_; first | refine AL.any ?_ | refine AL.any (h := POp.k Tryz.func245 (hc := isLine_i _ (by assumption))) ?_ | refine AL.any (h := POp.k Tryz.func246 (hc := segs_i _ (by assumption))) ?_ | refine AL.nil ?_)
        | ((with_reducible show DL ..); first | refine DL.any ?_ | refine DL.any (h := POp.k Tryz.func247 (hc := meet_i x y)) ?_ | refine DL.nil ?_)
        | (refine iAW ?_; first | (refine AW.c0 ?_; constructor) | (refine AW.loopD hE (fun k : Nat => [.ro 2 (l.map TPoint.en), .any, .any, .ro 4 ((segs l).map TSegment.en), I (i : Int), .any, .any, .any, .any, .any, .any, .any, .any, I (((segs l).map TSegment.en).length : Int), I (i : Int), .any, .any, I (i : Int), I (k : Int), .any, .any, .any, .any, .any, .any, .any, .any, .any, .any, .any, .any, .any, .any, .any, .any, .any, .any, .any]) (fun k => []) (fun k => i - k) (fun k => k ≤ i ∧ smIn l i k = true) 0 ⟨Nat.zero_le _, by simp [smIn]⟩ ?_ (by first | rfl | (simp; done)) ?_) | refine AW.dr (id := 13) 10 ?_ | refine AW.cT ?_ | refine AW.cF ?_ | (refine AW.c2 ?_ ?_ <;> (intro h; try simp only [bT, bF] at h)))
        | with_reducible refine ifP ?_
        | with_reducible refine ifN ?_) <;> (try dsimp only))
      · (repeat' (first | exact Wk.nil | refine Wk.any ?_ | (with_reducible refine Wk.same ?_) | refine Wk.of ?_ ?_)) <;> first | rfl | (simp; done)
      · intro k hv_k
        have hclo : Clo (.ro 2 (l.map TPoint.en)) := clo_list TPoint.clo_en
        have hclS : Clo (.ro 4 ((segs l).map TSegment.en)) := clo_list TSegment.clo_en
        have hsl := segs_le l
        by_cases hlt_k : k < i
        · skip
          obtain ⟨y, hy⟩ : ∃ y, (segs l)[k]? = some y := ⟨_, List.getElem?_eq_getElem (by omega)⟩
          have hgy := map_get (f := TSegment.en) hy
          have htk : decide ((k : Int) < (i : Int)) = true := by simp; omega
          have hnk := next_ix hlt_k (by omega)
          have hsy := gAt_of hy
          have hrk : smIn l i (k + 1) = (smIn l i k && (hmI x y == wantL i k)) := by rw [smIn_succ, hsx, hsy]
          rcases wantL_i (i := i) (k := k) hlt_k (by omega) with ⟨w1, wN⟩ | ⟨w1, wN⟩
          all_goals
            repeat' ((first
              | (refine iAL ?_; first | refine AL.any ?_ | refine AL.any (h := POp.k Tryz.func245 (hc := isLine_i _ (by assumption))) ?_ | refine AL.any (h := POp.k Tryz.func246 (hc := segs_i _ (by assumption))) ?_ | refine AL.nil ?_)
              | ((with_reducible show DL ..); first | refine DL.any ?_ | refine DL.any (h := POp.k Tryz.func247 (hc := meet_i x y)) ?_ | refine DL.nil ?_)
              | (refine iAW ?_; first | (refine AW.c0 ?_; constructor) | refine AW.dr (id := 13) 10 ?_ | refine AW.cT ?_ | refine AW.cF ?_ | (refine AW.c2 ?_ ?_ <;> (intro h; try simp only [bT, bF] at h)))
              | with_reducible refine ifP ?_
              | with_reducible refine ifN ?_) <;> (try dsimp only))
            all_goals first
              | (refine ⟨k + 1, _, ⟨hlt_k, by simp_all⟩, by omega, ?_, rfl, ?_, ?_⟩; (focus ((repeat' (first | exact Wk.nil | refine Wk.any ?_ | (with_reducible refine Wk.same ?_) | refine Wk.of ?_ ?_)) <;> (simp_all))); (focus (exact fitsA)); (focus (exact FitsM.nil _)))
              | exact Fin.one rfl (RV.tmp (by rfl)) (clo_c _) ⟨by have e1 := smIn_not (l := l) (i := i) (k := k) (n := i) (by simp_all) hlt_k; have e2 := smOk_not (l := l) (i := i) (n := (segs l).length) (by simp_all) (by omega); simp_all [isSimple], rfl⟩
        · have e_k : k = i := by omega
          have htk : decide ((k : Int) < (i : Int)) = false := by simp; omega
          have e2 := e_k.symm
          subst e2
          repeat' ((first
            | (refine iAL ?_; first | refine AL.any ?_ | refine AL.any (h := POp.k Tryz.func245 (hc := isLine_i _ (by assumption))) ?_ | refine AL.any (h := POp.k Tryz.func246 (hc := segs_i _ (by assumption))) ?_ | refine AL.nil ?_)
            | ((with_reducible show DL ..); first | refine DL.any ?_ | refine DL.any (h := POp.k Tryz.func247 (hc := meet_i x y)) ?_ | refine DL.nil ?_)
            | (refine iAW ?_; first | (refine AW.c0 ?_; constructor) | refine AW.dr (id := 13) 10 ?_ | refine AW.cT ?_ | refine AW.cF ?_ | (refine AW.c2 ?_ ?_ <;> (intro h; try simp only [bT, bF] at h)))
            | with_reducible refine ifP ?_
            | with_reducible refine ifN ?_) <;> (try dsimp only))
          all_goals first
            | (refine ⟨i + 1, _, ⟨hlt_i, by simp_all⟩, by omega, ?_, rfl, ?_, ?_⟩; (focus ((repeat' (first | exact Wk.nil | refine Wk.any ?_ | (with_reducible refine Wk.same ?_) | refine Wk.of ?_ ?_)) <;> (simp_all))); (focus (exact fitsA)); (focus (exact FitsM.nil _)))
    · have e_i : i = (segs l).length := by omega
      have hti := lt_false (f := TSegment.en) (show ¬ i < (segs l).length by omega)
      have e2 := e_i.symm
      subst e2
      repeat' ((first
        | (refine iAL ?_; first | refine AL.any ?_ | refine AL.any (h := POp.k Tryz.func245 (hc := isLine_i _ (by assumption))) ?_ | refine AL.any (h := POp.k Tryz.func246 (hc := segs_i _ (by assumption))) ?_ | refine AL.nil ?_)
        | ((with_reducible show DL ..); first | refine DL.any ?_ | refine DL.any (h := POp.k Tryz.func247 (hc := meet_i x y)) ?_ | refine DL.nil ?_)
        | (refine iAW ?_; first | (refine AW.c0 ?_; constructor) | refine AW.dr (id := 13) 10 ?_ | refine AW.cT ?_ | refine AW.cF ?_ | (refine AW.c2 ?_ ?_ <;> (intro h; try simp only [bT, bF] at h)))
        | with_reducible refine ifP ?_
        | with_reducible refine ifN ?_) <;> (try dsimp only))
      all_goals first
        | exact Fin.one rfl (RV.tmp (by rfl)) (clo_c _) ⟨by simp_all [isSimple], rfl⟩

theorem isName_s (s : ByteArray) (hs : s.size ≤ maxLen) : VCalls Tryz.prog 169 [S s] (fun r M => r = B (isName s) ∧ M = []) := by
  refine VB Tryz.func169 22 (fun E hE => ?_)
  rw [maxLen_eq] at hs
  repeat' ((first
    | (refine iAL ?_; first | refine AL.any ?_ | refine AL.any (h := POp.k Tryz.func96 (hc := inr_s _ _ _)) ?_ | refine AL.U ?_ | refine AL.F ?_ | refine AL.T ?_ | refine AL.W ?_ | refine AL.nil ?_)
    | (refine iAW ?_; first | (refine AW.c0 ?_; constructor) | refine AW.cT ?_ | refine AW.cF ?_ | (refine AW.c2 ?_ ?_ <;> (intro h; try simp only [bT, bF] at h)))
    | (refine AW.loopD hE (fun i : Nat => [S s, .any, .any, I (i : Int), .any, .any, .any, .any, .any, .any, .any, .any, .any, .any, .any, .any, .any, .any, .any, .any, .any, .any, .any]) (fun i => []) (fun i => s.size - i) (fun i => i ≤ s.size ∧ nmTo s i = true) 0 ⟨Nat.zero_le _, by simp [nmTo]⟩ ?_ (by first | rfl | (simp [fil_zero]; done)) ?_
       (focus (exact wkI))
       intro i hi
       by_cases hlt : i < s.size
       case' pos =>
         have hP := True.intro
         obtain ⟨b, hb, hb'⟩ := byte_get hlt
         have ht := bytes_lt hlt
         have hn := next_ix hlt (by omega)
         have hc := nmAt_some hb
         have hsu := nmTo_succ s i
       case' neg =>
         have hQ := True.intro
         have e : i = s.size := by omega
         have ht := bytes_ge hlt
         subst e)
    | with_reducible refine ifP ?_
    | with_reducible refine ifN ?_) <;> (try dsimp only))
  all_goals first
    | (have _ := hP; (refine ⟨i + 1, _, ⟨hlt, by simp_all⟩, by omega, ?_, rfl, ?_, ?_⟩; (focus (exact wkN)); (focus (exact fitsA)); (focus (exact FitsM.nil _))))
    | (have _ := hP; exact Fin.one rfl (RV.tmp (by rfl)) (clo_c _) ⟨by have hn := nmTo_not (n := s.size) (by simp_all : nmAt s i = false) hlt; simp_all [isName], rfl⟩)
    | (have _ := hQ; exact Fin.one rfl (RV.tmp (by rfl)) (clo_c _) ⟨by simp_all [isName], rfl⟩)

theorem isName_i (s : ByteArray) (hs : s.size ≤ maxLen) : VCalls Tryz.prog 179 [S s] (fun r M => r = B (isName s) ∧ M = []) := by
  refine VB Tryz.func179 22 (fun E hE => ?_)
  rw [maxLen_eq] at hs
  repeat' ((first
    | (refine iAL ?_; first | refine AL.any ?_ | refine AL.any (h := POp.k Tryz.func145 (hc := inr_v _ _ _)) ?_ | refine AL.U ?_ | refine AL.F ?_ | refine AL.T ?_ | refine AL.W ?_ | refine AL.nil ?_)
    | (refine iAW ?_; first | (refine AW.c0 ?_; constructor) | refine AW.cT ?_ | refine AW.cF ?_ | (refine AW.c2 ?_ ?_ <;> (intro h; try simp only [bT, bF] at h)))
    | (refine AW.loopD hE (fun i : Nat => [S s, .any, .any, .any, .any, I (s.size : Int), I (i : Int), .any, .any, .any, .any, .any, .any, .any, .any, .any, .any, .any, .any, .any, .any, .any, .any]) (fun i => []) (fun i => s.size - i) (fun i => i ≤ s.size ∧ nmTo s i = true) 0 ⟨Nat.zero_le _, by simp [nmTo]⟩ ?_ (by first | rfl | (simp [fil_zero]; done)) ?_
       (focus (exact wkI))
       intro i hi
       by_cases hlt : i < s.size
       case' pos =>
         have hP := True.intro
         obtain ⟨b, hb, hb'⟩ := byte_get hlt
         have ht := bytes_lt hlt
         have hn := next_ix hlt (by omega)
         have hc := nmAt_some hb
         have hsu := nmTo_succ s i
       case' neg =>
         have hQ := True.intro
         have e : i = s.size := by omega
         have ht := bytes_ge hlt
         subst e)
    | with_reducible refine ifP ?_
    | with_reducible refine ifN ?_) <;> (try dsimp only))
  all_goals first
    | (have _ := hP; (refine ⟨i + 1, _, ⟨hlt, by simp_all⟩, by omega, ?_, rfl, ?_, ?_⟩; (focus (exact wkN)); (focus (exact fitsA)); (focus (exact FitsM.nil _))))
    | (have _ := hP; exact Fin.one rfl (RV.tmp (by rfl)) (clo_c _) ⟨by have hn := nmTo_not (n := s.size) (by simp_all : nmAt s i = false) hlt; simp_all [isName], rfl⟩)
    | (have _ := hQ; exact Fin.one rfl (RV.tmp (by rfl)) (clo_c _) ⟨by simp_all [isName], rfl⟩)

theorem isFeat_s (x : TFeature) (hg : x.gd) : VCalls Tryz.prog 109 [.agg x.en] (fun r M => r = B (isFeat x) ∧ M = []) := by
  refine VB Tryz.func109 48 (fun E hE => ?_)
  obtain ⟨hp1, hn1⟩ := id hg
  have hclP : Clo (.ro 2 (x.points.map TPoint.en)) := clo_list TPoint.clo_en
  have hcle : Clo (.agg x.en) := Clo.agg x.clo_en
  rcases feat_cases x with h1 | ⟨h1, h2⟩ | ⟨h1, h2, h3, h4⟩ | ⟨h1, h2, h3⟩ | ⟨h1, h2, h3, h4⟩
  all_goals rcases len1 x.points with ⟨h5, h6, hg0⟩ | ⟨h5, h6⟩
  repeat' ((first
    | (refine iAL ?_; first | refine AL.any ?_ | refine AL.any (h := POp.k Tryz.func96 (hc := inr_s _ _ _)) ?_ | refine AL.any (h := POp.k Tryz.func171 (hc := isSimple_s _ (by assumption))) ?_ | refine AL.any (h := POp.k Tryz.func172 (hc := isRing_s _ (by assumption))) ?_ | refine AL.U ?_ | refine AL.F ?_ | refine AL.T ?_ | refine AL.T (h := POp.k Tryz.func96 (hc := inr_s _ _ _)) ?_ | refine AL.T (h := POp.k Tryz.func169 (hc := isName_s _ (by assumption))) ?_ | refine AL.T (h := POp.k Tryz.func170 (hc := by first | exact isp_s_t _ _ (by assumption) | exact isp_s_f _ _ (by assumption) | exact isp_s _ _)) ?_ | refine AL.W ?_ | refine AL.W (h := fun h => by (try rw [h]); exact POp.k Tryz.func96 (hc := inr_s _ _ _)) ?_ | refine AL.W (h := fun h => by (try rw [h]); exact POp.k Tryz.func169 (hc := isName_s _ (by assumption))) ?_ | refine AL.W (h := fun h => by (try rw [h]); exact POp.k Tryz.func170 (hc := by first | exact isp_s_t _ _ (by assumption) | exact isp_s_f _ _ (by assumption) | exact isp_s _ _)) ?_ | refine AL.nil ?_)
    | (refine iAW ?_; first | (refine AW.c0 ?_; constructor) | refine AW.cT ?_ | refine AW.cF ?_ | (refine AW.c2 ?_ ?_ <;> (intro h; try simp only [bT, bF] at h)))) <;> (try dsimp only))
  all_goals exact Fin.one rfl (RV.tmp (by rfl)) (clo_c _) ⟨by first | (simp_all [isFeat, kindOk, noName]; done), rfl⟩

theorem isFeat_i (x : TFeature) (hg : x.gd) : VCalls Tryz.prog 119 [.agg x.en] (fun r M => r = B (isFeat x) ∧ M = []) := by
  refine VB Tryz.func119 48 (fun E hE => ?_)
  obtain ⟨hp1, hn1⟩ := id hg
  have hclP : Clo (.ro 2 (x.points.map TPoint.en)) := clo_list TPoint.clo_en
  have hcle : Clo (.agg x.en) := Clo.agg x.clo_en
  rcases feat_cases x with h1 | ⟨h1, h2⟩ | ⟨h1, h2, h3, h4⟩ | ⟨h1, h2, h3⟩ | ⟨h1, h2, h3, h4⟩
  all_goals rcases len1 x.points with ⟨h5, h6, hg0⟩ | ⟨h5, h6⟩
  repeat' ((first
    | (refine iAL ?_; first | refine AL.any ?_ | refine AL.any (h := POp.k Tryz.func145 (hc := inr_v _ _ _)) ?_ | refine AL.any (h := POp.k Tryz.func181 (hc := isSimple_i _ (by assumption))) ?_ | refine AL.any (h := POp.k Tryz.func182 (hc := isRing_i _ (by assumption))) ?_ | refine AL.U ?_ | refine AL.F ?_ | refine AL.T ?_ | refine AL.T (h := POp.k Tryz.func145 (hc := inr_v _ _ _)) ?_ | refine AL.T (h := POp.k Tryz.func179 (hc := isName_i _ (by assumption))) ?_ | refine AL.T (h := POp.k Tryz.func180 (hc := by first | exact isp_v_t _ _ (by assumption) | exact isp_v_f _ _ (by assumption) | exact isp_v _ _)) ?_ | refine AL.W ?_ | refine AL.W (h := fun h => by (try rw [h]); exact POp.k Tryz.func145 (hc := inr_v _ _ _)) ?_ | refine AL.W (h := fun h => by (try rw [h]); exact POp.k Tryz.func179 (hc := isName_i _ (by assumption))) ?_ | refine AL.W (h := fun h => by (try rw [h]); exact POp.k Tryz.func180 (hc := by first | exact isp_v_t _ _ (by assumption) | exact isp_v_f _ _ (by assumption) | exact isp_v _ _)) ?_ | refine AL.nil ?_)
    | (refine iAW ?_; first | (refine AW.c0 ?_; constructor) | refine AW.cT ?_ | refine AW.cF ?_ | (refine AW.c2 ?_ ?_ <;> (intro h; try simp only [bT, bF] at h)))) <;> (try dsimp only))
  all_goals exact Fin.one rfl (RV.tmp (by rfl)) (clo_c _) ⟨by first | (simp_all [isFeat, kindOk, noName]; done), rfl⟩

theorem isSource_s (l : List TFeature) (hl : l.length ≤ 1048576) (hp : ∀ x ∈ l, x.gd) : VCalls Tryz.prog 78 [.ro 5 (l.map TFeature.en)] (fun r M => r = B (isSource l) ∧ M = []) := by
  refine VB Tryz.func78 36 (fun E hE => ?_)
  have hclo : Clo (.ro 5 (l.map TFeature.en)) := clo_list TFeature.clo_en
  repeat' ((first
    | (refine iAL ?_; first | refine AL.any ?_ | refine AL.U ?_ | refine AL.F ?_ | refine AL.T ?_ | refine AL.W ?_ | refine AL.nil ?_)
    | ((with_reducible show DL ..); first | refine DL.any ?_ | refine DL.any (h := POp.k Tryz.func109 (hc := isFeat_s x (by assumption))) ?_ | refine DL.U ?_ | refine DL.F ?_ | refine DL.T ?_ | refine DL.W ?_ | refine DL.nil ?_)
    | (refine iAW ?_; first | (refine AW.c0 ?_; constructor) | refine AW.dr (id := 4) 21 ?_ | refine AW.cT ?_ | refine AW.cF ?_ | (refine AW.c2 ?_ ?_ <;> (intro h; try simp only [bT, bF] at h)))
    | (refine AW.loopD hE (fun i : Nat => [.ro 5 (l.map TFeature.en), .any, .any, I (i : Int), .any, .any, .any, .any, .any, .any, .any, .any, .any, .any, .any, .any, .any, .any, .any, .any, .any, .any, .any, .any, .any, .any, .any, .any, .any, .any, .any, .any, .any, .any, .any, .any, .any]) (fun i => []) (fun i => l.length - i) (fun i => i ≤ l.length ∧ srcOk l i = true) 0 (by simp [srcOk]) ?_ (by first | rfl | (simp [fil_zero]; done)) ?_
       (focus (exact wkI))
       intro i hi
       by_cases hlt : i < l.length
       case' pos =>
         have hP := True.intro
         obtain ⟨x, hx⟩ : ∃ x, l[i]? = some x := ⟨_, List.getElem?_eq_getElem hlt⟩
         have hg := map_get (f := TFeature.en) hx
         have ht := lt_true (f := TFeature.en) hlt
         have hn := next_ix hlt (by omega)
         have hgx := hp x (List.mem_of_getElem? hx)
         have hclP : Clo (.ro 2 (x.points.map TPoint.en)) := clo_list TPoint.clo_en
         have hcle : Clo (.agg x.en) := Clo.agg x.clo_en
         have hsu := srcOk_succ l i
         rcases src_cases hx hl with ⟨hI, hk⟩ | ⟨hI, hz, hk⟩ | ⟨hI, hz, h0, hp0, hk⟩
       case' neg =>
         have hQ := True.intro
         have ht := lt_false (f := TFeature.en) hlt
         have e : i = l.length := by omega
         subst e
         try rw [List.take_length])
    | with_reducible refine ifP ?_
    | with_reducible refine ifN ?_) <;> (try dsimp only))
  all_goals first
    | (have _ := hP; (refine ⟨i + 1, _, ⟨hlt, by simp_all <;> omega⟩, by omega, ?_, rfl, ?_, ?_⟩; (focus (exact wkN)); (focus (exact fitsA)); (focus (exact FitsM.nil _))))
    | (have _ := hP; exact Fin.one rfl (RV.tmp (by rfl)) (clo_c _) ⟨by have hn := srcOk_not (n := l.length) (by simp_all <;> omega : srcAt l i = false) hlt; simp_all [isSource], rfl⟩)
    | (have _ := hQ; exact Fin.one rfl (RV.tmp (by rfl)) (clo_c _) ⟨by first | (simp_all [isSource]; done) | (simp_all [isSource] <;> omega), rfl⟩)

theorem isSource_i (l : List TFeature) (hl : l.length ≤ 1048576) (hp : ∀ x ∈ l, x.gd) : VCalls Tryz.prog 80 [.ro 5 (l.map TFeature.en)] (fun r M => r = B (isSource l) ∧ M = []) := by
  refine VB Tryz.func80 33 (fun E hE => ?_)
  have hclo : Clo (.ro 5 (l.map TFeature.en)) := clo_list TFeature.clo_en
  repeat' ((first
    | (refine iAL ?_; first | refine AL.any ?_ | refine AL.U ?_ | refine AL.F ?_ | refine AL.T ?_ | refine AL.W ?_ | refine AL.nil ?_)
    | ((with_reducible show DL ..); first | refine DL.any ?_ | refine DL.any (h := POp.k Tryz.func119 (hc := isFeat_i x (by assumption))) ?_ | refine DL.U ?_ | refine DL.F ?_ | refine DL.T ?_ | refine DL.W ?_ | refine DL.nil ?_)
    | (refine iAW ?_; first | (refine AW.c0 ?_; constructor) | refine AW.dr (id := 6) 15 ?_ | refine AW.cT ?_ | refine AW.cF ?_ | (refine AW.c2 ?_ ?_ <;> (intro h; try simp only [bT, bF] at h)))
    | (refine AW.loopD hE (fun i : Nat => [.ro 5 (l.map TFeature.en), .any, .any, .any, .any, .any, .any, .any, .ro 5 (l.map TFeature.en), I ((l.map TFeature.en).length : Int), I (i : Int), .any, .any, .any, .any, .any, .any, .any, .any, .any, .any, .any, .any, .any, .any, .any, .any, .any, .any, .any, .any, .any, .any, .any]) (fun i => []) (fun i => l.length - i) (fun i => i ≤ l.length ∧ srcOk l i = true) 0 (by simp [srcOk]) ?_ (by first | rfl | (simp [fil_zero]; done)) ?_
       (focus (exact wkI))
       intro i hi
       by_cases hlt : i < l.length
       case' pos =>
         have hP := True.intro
         obtain ⟨x, hx⟩ : ∃ x, l[i]? = some x := ⟨_, List.getElem?_eq_getElem hlt⟩
         have hg := map_get (f := TFeature.en) hx
         have ht := lt_true (f := TFeature.en) hlt
         have hn := next_ix hlt (by omega)
         have hgx := hp x (List.mem_of_getElem? hx)
         have hclP : Clo (.ro 2 (x.points.map TPoint.en)) := clo_list TPoint.clo_en
         have hcle : Clo (.agg x.en) := Clo.agg x.clo_en
         have hsu := srcOk_succ l i
         rcases src_cases hx hl with ⟨hI, hk⟩ | ⟨hI, hz, hk⟩ | ⟨hI, hz, h0, hp0, hk⟩
       case' neg =>
         have hQ := True.intro
         have ht := lt_false (f := TFeature.en) hlt
         have e : i = l.length := by omega
         subst e
         try rw [List.take_length])
    | with_reducible refine ifP ?_
    | with_reducible refine ifN ?_) <;> (try dsimp only))
  all_goals first
    | (have _ := hP; (refine ⟨i + 1, _, ⟨hlt, by simp_all <;> omega⟩, by omega, ?_, rfl, ?_, ?_⟩; (focus (exact wkN)); (focus (exact fitsA)); (focus (exact FitsM.nil _))))
    | (have _ := hP; exact Fin.one rfl (RV.tmp (by rfl)) (clo_c _) ⟨by have hn := srcOk_not (n := l.length) (by simp_all <;> omega : srcAt l i = false) hlt; simp_all [isSource], rfl⟩)
    | (have _ := hQ; exact Fin.one rfl (RV.tmp (by rfl)) (clo_c _) ⟨by first | (simp_all [isSource]; done) | (simp_all [isSource] <;> omega), rfl⟩)
    | (exact Fin.one rfl (RV.tmp (by rfl)) (clo_c _) ⟨by simp_all [isSource] <;> omega, rfl⟩)

theorem ringSegs_s (l : List TPoint) (hl : l.length ≤ 1048576) : VCalls Tryz.prog 174 [.ro 2 (l.map TPoint.en)] (fun r M => r = .ro 4 ((ringSegs l).map TSegment.en) ∧ M = []) := by
  refine VB Tryz.func174 8 (fun E hE => ?_)
  have hclo : Clo (.ro 2 (l.map TPoint.en)) := clo_list TPoint.clo_en
  have hclS : Clo (.ro 4 ((segs l).map TSegment.en)) := clo_list TSegment.clo_en
  have hsl := segs_le l
  have hclA : Clo (.ro 4 ((arnd l).map TSegment.en)) := clo_list TSegment.clo_en
  repeat' ((first
    | (refine iAL ?_; first | refine AL.any ?_ | refine AL.any (h := POp.k Tryz.func172 (hc := isRing_s _ (by assumption))) ?_ | refine AL.any (h := POp.k Tryz.func239 (hc := arnd_s _ (by assumption))) ?_ | refine AL.nil ?_)
    | (refine iAW ?_; first | (refine AW.freezeRet (t := 2) (id := 0) rfl rfl rfl rfl clo_rows_nil ?_; (try simp only [List.take_length]); try dsimp only [dput, List.set, cond_true, cond_false, Nat.zero_add, Nat.add_zero, Nat.reduceAdd, splice, List.take, List.drop, List.length, List.nil_append, List.cons_append, List.append, TPoint.en, TSegment.en, TBox.en, TFeature.en, TMeet.en, TPlace.en, TCover.en, TLabel.en, TPiece.en, TLevel.en, TChart.en, TReason.en, TEdit.en, TEntry.en, TEdition.en, TListing.en, TAtlas.en, TEvent.en, TWindow.en]) | (refine AW.c0 ?_; constructor) | refine AW.cT ?_ | refine AW.cF ?_ | (refine AW.c2 ?_ ?_ <;> (intro h; try simp only [bT, bF] at h)))) <;> (try dsimp only))
  all_goals first | exact Fin.one rfl (RV.tmp (by rfl)) (Clo.ro fun r hr => by simp at hr) ⟨by rw [ringSegs_f (by assumption)]; rfl, rfl⟩ | exact Fin.one rfl (RV.tmp (by rfl)) (clo_list TSegment.clo_en) ⟨by rw [ringSegs_t (by assumption)], rfl⟩

theorem parts_s (x : TFeature) (hg : x.gd) : VCalls Tryz.prog 110 [.agg x.en] (fun r M => r = .ro 4 ((partsOf x).map TSegment.en) ∧ M = []) := by
  refine VB Tryz.func110 19 (fun E hE => ?_)
  obtain ⟨hp1, hn1⟩ := id hg
  have hclP : Clo (.ro 2 (x.points.map TPoint.en)) := clo_list TPoint.clo_en
  have hcle : Clo (.agg x.en) := Clo.agg x.clo_en
  have hclS : Clo (.ro 4 ((segs x.points).map TSegment.en)) := clo_list TSegment.clo_en
  have hclR : Clo (.ro 4 ((ringSegs x.points).map TSegment.en)) := clo_list TSegment.clo_en
  repeat' ((first
    | (refine iAL ?_; first | refine AL.any ?_ | refine AL.any (h := POp.k Tryz.func109 (hc := isFeat_s x (by assumption))) ?_ | refine AL.any (h := POp.k Tryz.func173 (hc := segs_s _ (by assumption))) ?_ | refine AL.any (h := POp.k Tryz.func174 (hc := ringSegs_s _ (by assumption))) ?_ | refine AL.nil ?_)
    | (refine iAW ?_; first | (refine AW.freezeRet (t := 2) (id := 1) rfl rfl rfl rfl clo_rows_nil ?_; (try simp only [List.take_length]); try dsimp only [dput, List.set, cond_true, cond_false, Nat.zero_add, Nat.add_zero, Nat.reduceAdd, splice, List.take, List.drop, List.length, List.nil_append, List.cons_append, List.append, TPoint.en, TSegment.en, TBox.en, TFeature.en, TMeet.en, TPlace.en, TCover.en, TLabel.en, TPiece.en, TLevel.en, TChart.en, TReason.en, TEdit.en, TEntry.en, TEdition.en, TListing.en, TAtlas.en, TEvent.en, TWindow.en]) | (refine AW.c0 ?_; constructor) | refine AW.cT ?_ | refine AW.cF ?_ | (refine AW.c2 ?_ ?_ <;> (intro h; try simp only [bT, bF] at h)))) <;> (try dsimp only))
  all_goals first | exact Fin.one rfl (RV.tmp (by rfl)) hclS ⟨by unfold partsOf; simp_all, rfl⟩ | exact Fin.one rfl (RV.tmp (by rfl)) hclR ⟨by unfold partsOf; simp_all, rfl⟩ | exact Fin.one rfl (RV.tmp (by rfl)) (Clo.ro clo_rows_nil) ⟨by unfold partsOf; simp_all, rfl⟩

theorem parts_i (x : TFeature) (hg : x.gd) : VCalls Tryz.prog 184 [.agg x.en] (fun r M => r = .ro 4 ((partsOf x).map TSegment.en) ∧ M = []) := by
  refine VB Tryz.func184 17 (fun E hE => ?_)
  obtain ⟨hp1, hn1⟩ := id hg
  have hclP : Clo (.ro 2 (x.points.map TPoint.en)) := clo_list TPoint.clo_en
  have hcle : Clo (.agg x.en) := Clo.agg x.clo_en
  have hclS : Clo (.ro 4 ((segs x.points).map TSegment.en)) := clo_list TSegment.clo_en
  have hclR : Clo (.ro 4 ((ringSegs x.points).map TSegment.en)) := clo_list TSegment.clo_en
  repeat' ((first
    | (refine iAL ?_; first | refine AL.any ?_ | refine AL.any (h := POp.k Tryz.func119 (hc := isFeat_i x (by assumption))) ?_ | refine AL.any (h := POp.k Tryz.func246 (hc := segs_i _ (by assumption))) ?_ | refine AL.any (h := POp.k Tryz.func251 (hc := ringSegs_i _ (by assumption))) ?_ | refine AL.nil ?_)
    | (refine iAW ?_; first | (refine AW.freezeRet (t := 2) (id := 1) rfl rfl rfl rfl clo_rows_nil ?_; (try simp only [List.take_length]); try dsimp only [dput, List.set, cond_true, cond_false, Nat.zero_add, Nat.add_zero, Nat.reduceAdd, splice, List.take, List.drop, List.length, List.nil_append, List.cons_append, List.append, TPoint.en, TSegment.en, TBox.en, TFeature.en, TMeet.en, TPlace.en, TCover.en, TLabel.en, TPiece.en, TLevel.en, TChart.en, TReason.en, TEdit.en, TEntry.en, TEdition.en, TListing.en, TAtlas.en, TEvent.en, TWindow.en]) | (refine AW.c0 ?_; constructor) | refine AW.cT ?_ | refine AW.cF ?_ | (refine AW.c2 ?_ ?_ <;> (intro h; try simp only [bT, bF] at h)))) <;> (try dsimp only))
  all_goals first | exact Fin.one rfl (RV.tmp (by rfl)) hclS ⟨by unfold partsOf; simp_all, rfl⟩ | exact Fin.one rfl (RV.tmp (by rfl)) hclR ⟨by unfold partsOf; simp_all, rfl⟩ | exact Fin.one rfl (RV.tmp (by rfl)) (Clo.ro clo_rows_nil) ⟨by unfold partsOf; simp_all, rfl⟩

def isBoxB (b : TBox) : Bool := isp b.low.x b.low.y && isp b.high.x b.high.y && decide (b.low.x ≤ b.high.x) && decide (b.low.y ≤ b.high.y)
def comX (a b : TBox) : Int := wsub (wmin a.high.x b.high.x) (wmax a.low.x b.low.x)
def comY (a b : TBox) : Int := wsub (wmin a.high.y b.high.y) (wmax a.low.y b.low.y)
theorem isBox_bd {b : TBox} (h : isBoxB b = true) : 0 ≤ b.low.x ∧ b.low.x ≤ b.high.x ∧ b.high.x ≤ 200 ∧ 0 ≤ b.low.y ∧ b.low.y ≤ b.high.y ∧ b.high.y ≤ 200 := by
  simp only [isBoxB, Bool.and_eq_true, decide_eq_true_eq] at h
  have h1 := isp_bd h.1.1.1
  have h2 := isp_bd h.1.1.2
  omega
def box0 : TBox := ⟨⟨0, 0⟩, ⟨0, 0⟩⟩
theorem fitsM_none {n : Nat} {M : Mem} (hm : FitsM n M) : FitsM n (none :: M) := fun b' hb r hr x hx => by
  rcases List.mem_cons.1 hb with e | hb
  · cases e
  · exact hm b' hb r hr x hx

theorem isBox_s (b : TBox) : VCalls Tryz.prog 241 [.agg b.en] (fun r M => r = B (isBoxB b) ∧ M = []) := by
  refine VB Tryz.func241 28 (fun E hE => ?_)
  dsimp only [TPoint.en, TBox.en]
  repeat' ((first
    | (refine iAL ?_; first | refine AL.any ?_ | refine AL.any (h := POp.k Tryz.func170 (hc := by first | exact isp_s_t _ _ (by assumption) | exact isp_s_f _ _ (by assumption) | exact isp_s _ _)) ?_ | refine AL.U ?_ | refine AL.F ?_ | refine AL.T ?_ | refine AL.T (h := POp.k Tryz.func170 (hc := by first | exact isp_s_t _ _ (by assumption) | exact isp_s_f _ _ (by assumption) | exact isp_s _ _)) ?_ | refine AL.W ?_ | refine AL.W (h := fun h => by (try rw [h]); exact POp.k Tryz.func170 (hc := by first | exact isp_s_t _ _ (by assumption) | exact isp_s_f _ _ (by assumption) | exact isp_s _ _)) ?_ | refine AL.nil ?_)
    | (refine iAW ?_; first | (refine AW.c0 ?_; constructor))) <;> (try dsimp only))
  all_goals exact Fin.one rfl (RV.tmp (by rfl)) (clo_c _) ⟨by first | rfl | (simp only [isBoxB, Bool.and_assoc]; done), rfl⟩

theorem isBox_i (b : TBox) : VCalls Tryz.prog 250 [.agg b.en] (fun r M => r = B (isBoxB b) ∧ M = []) := by
  refine VB Tryz.func250 28 (fun E hE => ?_)
  dsimp only [TPoint.en, TBox.en]
  repeat' ((first
    | (refine iAL ?_; first | refine AL.any ?_ | refine AL.any (h := POp.k Tryz.func180 (hc := by first | exact isp_v_t _ _ (by assumption) | exact isp_v_f _ _ (by assumption) | exact isp_v _ _)) ?_ | refine AL.U ?_ | refine AL.F ?_ | refine AL.T ?_ | refine AL.T (h := POp.k Tryz.func180 (hc := by first | exact isp_v_t _ _ (by assumption) | exact isp_v_f _ _ (by assumption) | exact isp_v _ _)) ?_ | refine AL.W ?_ | refine AL.W (h := fun h => by (try rw [h]); exact POp.k Tryz.func180 (hc := by first | exact isp_v_t _ _ (by assumption) | exact isp_v_f _ _ (by assumption) | exact isp_v _ _)) ?_ | refine AL.nil ?_)
    | (refine iAW ?_; first | (refine AW.c0 ?_; constructor))) <;> (try dsimp only))
  all_goals exact Fin.one rfl (RV.tmp (by rfl)) (clo_c _) ⟨by first | rfl | (simp only [isBoxB, Bool.and_assoc]; done), rfl⟩

theorem com_i (a b : TBox) : VCalls Tryz.prog 286 [.agg a.en, .agg b.en] (fun r M => r = .tup [I (comX a b), I (comY a b)] ∧ M = []) := by
  refine VB Tryz.func286 34 (fun E hE => ?_)
  dsimp only [TPoint.en, TBox.en]
  repeat' ((first
    | (refine iAL ?_; first | refine AL.any ?_ | refine AL.nil ?_)
    | ((with_reducible show DL ..); first | refine DL.any ?_ | refine DL.nil ?_)
    | (refine iAW ?_; first | (refine AW.c0 ?_; constructor) | refine AW.dr (id := 1) 31 ?_)) <;> (try dsimp only))
  all_goals exact Fin.two rfl (RV.tmp (by rfl)) (RV.tmp (by rfl)) (clo_of (by rfl)) ⟨by rfl, rfl⟩

theorem src_feat {l : List TFeature} {i : Nat} {x : TFeature} (hS : isSource l = true) (hx : l[i]? = some x) : isFeat x = true := by
  simp only [isSource, Bool.and_eq_true, srcOk, List.all_eq_true, List.mem_range] at hS
  have h := hS.1 i (List.getElem?_eq_some_iff.1 hx).1
  simp only [srcAt, hx, Bool.and_eq_true] at h
  exact h.1
theorem src_len {l : List TFeature} (hS : isSource l = true) : l.length ≤ 16 := by
  simp only [isSource, Bool.and_eq_true, decide_eq_true_eq] at hS
  omega
theorem gd_of {l : List TFeature} (h1 : ∀ x ∈ l, x.sm) (h2 : ∀ x ∈ l, x.ok) : ∀ x ∈ l, x.gd := fun x hx => ⟨h1 x hx, (h2 x hx).2.2.2.1⟩

def modW (v : Int) : Int := if v.tmod 2147483647 < 0 then wadd (v.tmod 2147483647) 2147483647 else v.tmod 2147483647
def hstep (d v : Int) : Int := (wadd (wadd (wmul d 1000003) (modW v)) 13).tmod 2147483647
def hsh (l : List Int) : Int := l.foldl hstep 11
abbrev enI (n : Int) : List AV := [I n]
theorem clo_enI (n : Int) : ∀ x ∈ enI n, Clo x := clo_cons (clo_c _) clo_nil
def fndTo (l : List TFeature) (k : Int) (i : Nat) : Bool := (l.take i).all fun f => !(f.id == k)
theorem fndTo_succ {l : List TFeature} {k : Int} {i : Nat} {x : TFeature} (h : l[i]? = some x) : fndTo l k (i + 1) = (fndTo l k i && !(x.id == k)) := by simp [fndTo, take_succ_of h]
def fnd (l : List TFeature) (k : Int) : Int := match l.findIdx? fun f => f.id == k with
  | some i => (i : Int)
  | none => -1
theorem fnd_some {l : List TFeature} {k : Int} {i : Nat} {x : TFeature} (h : l[i]? = some x) (hx : (x.id == k) = true) (ht : fndTo l k i = true) : fnd l k = (i : Int) := by
  have hi := (List.getElem?_eq_some_iff.1 h).1
  have e : l.findIdx? (fun f => f.id == k) = some i := by
    rw [List.findIdx?_eq_some_iff_getElem]
    refine ⟨hi, ?_, fun j hj => ?_⟩
    · rw [(List.getElem?_eq_some_iff.1 h).2]; exact hx
    · simp only [fndTo, List.all_eq_true] at ht
      have := ht l[j] (by rw [List.mem_take_iff_getElem]; exact ⟨j, by omega, rfl⟩)
      simpa using this
  rw [fnd, e]
theorem fnd_none {l : List TFeature} {k : Int} (ht : fndTo l k l.length = true) : fnd l k = -1 := by
  have e : l.findIdx? (fun f => f.id == k) = none := by
    rw [List.findIdx?_eq_none_iff]
    rw [fndTo, List.take_length, List.all_eq_true] at ht
    intro x hx
    have := ht x hx
    simpa using this
  rw [fnd, e]
theorem src_inc {l : List TFeature} (hS : isSource l = true) : ∀ (i j : Nat) (x y : TFeature), i < j → l[i]? = some x → l[j]? = some y → x.id < y.id := by
  have step : ∀ (i : Nat) (x y : TFeature), l[i]? = some x → l[i + 1]? = some y → x.id < y.id := fun i x y hx hy => by
    simp only [isSource, Bool.and_eq_true, srcOk, List.all_eq_true, List.mem_range] at hS
    have h := hS.1 (i + 1) (List.getElem?_eq_some_iff.1 hy).1
    simp only [srcAt, hy, Bool.and_eq_true, Bool.or_eq_true, decide_eq_true_eq] at h
    rcases h.2 with h | h
    · simp at h
    · simpa [prevF, List.getD_eq_getElem?_getD, hx] using h
  intro i j
  induction j with
  | zero => intro x y h; omega
  | succ j ih =>
    intro x y h hx hy
    rcases Nat.lt_or_ge i j with hij | hij
    · have hj : j < l.length := by have := (List.getElem?_eq_some_iff.1 hy).1; omega
      have h1 := ih x l[j] hij hx (List.getElem?_eq_getElem hj)
      have h2 := step j l[j] y (List.getElem?_eq_getElem hj) hy
      omega
    · have e : i = j := by omega
      subst e
      exact step i x y hx hy
theorem fnd_src {l : List TFeature} {i : Nat} {x : TFeature} (hS : isSource l = true) (hx : l[i]? = some x) : fnd l x.id = (i : Int) := by
  refine fnd_some hx (by simp) ?_
  rw [fndTo, List.all_eq_true]
  intro y hy
  rw [List.mem_take_iff_getElem] at hy
  obtain ⟨j, hj, rfl⟩ := hy
  have := src_inc hS j i l[j] x (by omega) (List.getElem?_eq_getElem (by omega)) hx
  simp
  omega
theorem find_s (l : List TFeature) (k : Int) (hl : l.length ≤ 1048576) : VCalls Tryz.prog 146 [.ro 5 (l.map TFeature.en), I k] (fun r M => r = I (fnd l k) ∧ M = []) := by
  refine VB Tryz.func146 18 (fun E hE => ?_)
  have hclo : Clo (.ro 5 (l.map TFeature.en)) := clo_list TFeature.clo_en
  repeat' ((first
    | (refine iAL ?_; first | refine AL.any ?_ | refine AL.nil ?_)
    | (refine iAW ?_; first | (refine AW.c0 ?_; constructor) | refine AW.cT ?_ | refine AW.cF ?_ | (refine AW.c2 ?_ ?_ <;> (intro h; try simp only [bT, bF] at h)))
    | (refine AW.loopD hE (fun i : Nat => [.ro 5 (l.map TFeature.en), I k, .any, .any, .any, I (i : Int), .any, .any, .any, .any, .any, .any, .any, .any, .any, .any, .any, .any, .any, .any]) (fun i => []) (fun i => l.length - i) (fun i => i ≤ l.length ∧ fndTo l k i = true) 0 (by simp [fndTo]) ?_ (by first | rfl | (simp [fil_zero]; done)) ?_
       (focus (exact wkI))
       intro i hi
       by_cases hlt : i < l.length
       case' pos =>
         have hP := True.intro
         obtain ⟨x, hx⟩ : ∃ x, l[i]? = some x := ⟨_, List.getElem?_eq_getElem hlt⟩
         have hg := map_get (f := TFeature.en) hx
         have ht := lt_true (f := TFeature.en) hlt
         have hn := next_ix hlt (by omega)
         have hsu := fndTo_succ (k := k) hx
         have hfs := fnd_some (k := k) hx
       case' neg =>
         have hQ := True.intro
         have ht := lt_false (f := TFeature.en) hlt
         have e : i = l.length := by omega
         subst e
         try rw [List.take_length])
    | with_reducible refine ifP ?_
    | with_reducible refine ifN ?_) <;> (try dsimp only))
  all_goals first
    | (have _ := hP; (refine ⟨i + 1, _, ⟨hlt, by simp_all⟩, by omega, ?_, rfl, ?_, ?_⟩; (focus (exact wkN)); (focus (exact fitsA)); (focus (exact FitsM.nil _))))
    | (have _ := hP; exact Fin.one rfl (RV.tmp (by rfl)) (clo_c _) ⟨by rw [hfs (by assumption) hi.2], rfl⟩)
    | (have _ := hQ; exact Fin.one rfl (RV.tmp (by rfl)) (clo_c _) ⟨by rw [fnd_none (by simpa using hi.2)], rfl⟩)

theorem find1_i (f : TFeature) (k : Int) : VCalls Tryz.prog 221 [.agg f.en, .rop 1 [[I k]] 0 0] (fun r M => r = B (f.id == k) ∧ M = []) := by
  refine VB Tryz.func221 6 (fun E hE => ?_)
  dsimp only [TFeature.en]
  repeat' ((first
    | (refine iAL ?_; first | refine AL.any ?_ | refine AL.nil ?_)
    | (refine iAW ?_; first | (refine AW.c0 ?_; constructor))) <;> (try dsimp only))
  all_goals exact Fin.one rfl (RV.tmp (by rfl)) (clo_c _) ⟨by rfl, rfl⟩

theorem index_i (l : List TFeature) (k : Int) (hl : l.length ≤ 1048576) : VCalls Tryz.prog 220 [.ro 5 (l.map TFeature.en), .fn 221 [.rop 1 [[I k]] 0 0]] (fun r M => r = I (fnd l k) ∧ M = []) := by
  refine VB Tryz.func220 17 (fun E hE => ?_)
  have hclo : Clo (.ro 5 (l.map TFeature.en)) := clo_list TFeature.clo_en
  have hcr : Clo (.rop 1 [[I k]] 0 0) := Clo.rop (clo_rows_b rfl)
  have hcf : Clo (.fn 221 [.rop 1 [[I k]] 0 0]) := Clo.fn (fun y hy => by rw [List.mem_singleton.1 hy]; exact Clo.rop (clo_rows_b rfl))
  repeat' ((first
    | (refine iAL ?_; first | refine AL.any ?_ | refine AL.nil ?_)
    | (refine iAW ?_; first | (refine AW.c0 ?_; constructor) | refine AW.cT ?_ | refine AW.cF ?_ | (refine AW.c2 ?_ ?_ <;> (intro h; try simp only [bT, bF] at h)))
    | refine AL.any (h := POp.kc Tryz.func221 (hc := find1_i x k)) ?_
    | (refine AW.loopD hE (fun i : Nat => [.ro 5 (l.map TFeature.en), .fn 221 [.rop 1 [[I k]] 0 0], .any, .any, .any, .any, .any, I ((l.map TFeature.en).length : Int), I (i : Int), .any, .any, .any, .any, .any, .any, .any, .any, .any, .any]) (fun i => []) (fun i => l.length - i) (fun i => i ≤ l.length ∧ fndTo l k i = true) 0 (by simp [fndTo]) ?_ (by first | rfl | (simp [fil_zero]; done)) ?_
       (focus (exact wkI))
       intro i hi
       by_cases hlt : i < l.length
       case' pos =>
         have hP := True.intro
         obtain ⟨x, hx⟩ : ∃ x, l[i]? = some x := ⟨_, List.getElem?_eq_getElem hlt⟩
         have hg := map_get (f := TFeature.en) hx
         have ht := lt_true (f := TFeature.en) hlt
         have hn := next_ix hlt (by omega)
         have hsu := fndTo_succ (k := k) hx
         have hfs := fnd_some (k := k) hx
         have hcle : Clo (.agg x.en) := Clo.agg x.clo_en
         have hclP : Clo (.ro 2 (x.points.map TPoint.en)) := clo_list TPoint.clo_en
       case' neg =>
         have hQ := True.intro
         have ht := lt_false (f := TFeature.en) hlt
         have e : i = l.length := by omega
         subst e
         try rw [List.take_length])
    | with_reducible refine ifP ?_
    | with_reducible refine ifN ?_) <;> (try dsimp only))
  all_goals first
    | (have _ := hP; (refine ⟨i + 1, _, ⟨hlt, by simp_all⟩, by omega, ?_, rfl, ?_, ?_⟩; (focus (exact wkN)); (focus (exact fitsA)); (focus (exact FitsM.nil _))))
    | (have _ := hP; exact Fin.one rfl (RV.tmp (by rfl)) (clo_c _) ⟨by rw [hfs (by assumption) hi.2], rfl⟩)
    | (have _ := hQ; exact Fin.one rfl (RV.tmp (by rfl)) (clo_c _) ⟨by rw [fnd_none (by simpa using hi.2)], rfl⟩)

theorem find_i (l : List TFeature) (k : Int) (hl : l.length ≤ 1048576) : VCalls Tryz.prog 149 [.ro 5 (l.map TFeature.en), I k] (fun r M => r = I (fnd l k) ∧ M = []) := by
  refine VB Tryz.func149 6 (fun E hE => ?_)
  have hclo : Clo (.ro 5 (l.map TFeature.en)) := clo_list TFeature.clo_en
  have hcr : Clo (.rop 1 [[I k]] 0 0) := Clo.rop (clo_rows_b rfl)
  have hcf : Clo (.fn 221 [.rop 1 [[I k]] 0 0]) := Clo.fn (fun y hy => by rw [List.mem_singleton.1 hy]; exact Clo.rop (clo_rows_b rfl))
  repeat' ((first
    | (refine iAL ?_; first | refine AL.any (h := POp.bxf) ?_ | refine AL.any ?_ | refine AL.any (h := POp.k Tryz.func220 (hc := index_i _ _ (by assumption))) ?_ | refine AL.nil ?_)
    | (refine iAW ?_; first | (refine AW.c0 ?_; constructor))) <;> (try dsimp only))
  all_goals exact Fin.one rfl (RV.tmp (by rfl)) (clo_c _) ⟨by rfl, rfl⟩

end Go.Proofs.YtpffahmmklpifaaGreat.Abs

/- Pieces of lists that stay; a row of ours cut short. -/
namespace Go.Proofs.YtpffahmmklpifaaGreat.Abs
open Go.Proofs Go.RowKit
set_option linter.unusedVariables false
set_option linter.unusedSimpArgs false
set_option maxRecDepth 100000
set_option maxHeartbeats 2000000
section
variable {P : Program} {o : Oper} {tm : List AV} {M : Mem}
theorem elem_of {t e : TypeId} (h : P.underlying t = some (.slice e)) : P.elem t = e := by simp [Program.elem, h]
theorem Addr.add_block (a : Addr) (n : Nat) : (a.add n).block = a.block := by unfold Addr.add; split <;> rfl
theorem QOp.cut_l {x y : Operand} {t e : TypeId} {sz : Nat} {es : List (List AV)} {k : IntKind} {n : Int} {es2 : List (List AV)} (ho : o.op = .slice t x (some y) none none) (ht : slk P t = some (e, sz)) (hx : evA tm x = some (.ro sz es)) (hy : sc tm y = some (.int k n)) (h0 : 0 ≤ n) (h1 : n ≤ (es.length : Int)) (he : es.drop n.toNat = es2) :
    QOp P o tm M (.ro sz es2) := he ▸ fun base w0 a w Fx β hh hs => by
  have hrep := hs.ev hx
  generalize hu : a.eval x = u at hrep
  cases hrep with
  | @ro _ _ A cap f hc hm hA hl h1c h =>
    have hun := (slk_inv ht).1
    obtain ⟨i0, hi0, hs0⟩ := info_size (slk_inv ht).2
    have hun2 : P.underlying t = some (.slice (P.elem t)) := by rw [elem_of hun]; exact hun
    refine ⟨sliced A n.toNat es.length cap sz, fun w' _ => ?_, ?_⟩
    · simp [execOp, ho, hu, hs.sc hy, run_sliceAt_slice w' t _ _ _ _ hun2, run_slice_l w' t A es.length cap hun2 k n h0 h1, elem_of hun, sizeOf, typeInfo, hi0, hs0, Result.andThen]
    · have e1 : es.length - n.toNat = (es.drop n.toNat).length := by simp
      unfold sliced
      rw [e1]
      refine .ro (fun i j => f (i + n.toNat) j) (by rw [← e1]; omega) (by rw [← e1]; omega) (fun hp => ?_) (fun i r hr => hl (i + n.toNat) r (by rw [List.getElem?_drop] at hr; rw [Nat.add_comm]; exact hr)) (fun i j => h1c _ _) (fun i r j z hr hz => h (i + n.toNat) r j z (by rw [List.getElem?_drop] at hr; rw [Nat.add_comm]; exact hr) hz)
      have hlt : n.toNat < es.length := by rw [← e1] at hp; omega
      obtain ⟨ad, rfl, hF, hcell⟩ := hA (by omega)
      rw [if_neg (by omega)]
      refine ⟨ad.add (n.toNat * sz), rfl, by rw [Addr.add_block]; exact hF, fun i r j hr hj => ?_⟩
      rw [Addr.add_add, show n.toNat * sz + (i * sz + j) = (i + n.toNat) * sz + j by rw [Nat.add_mul]; omega]
      exact hcell (i + n.toNat) r j (by rw [List.getElem?_drop] at hr; rw [Nat.add_comm]; exact hr) hj
theorem QOp.cut_h {x y : Operand} {t e : TypeId} {sz : Nat} {es : List (List AV)} {k : IntKind} {n : Int} {es2 : List (List AV)} (ho : o.op = .slice t x none (some y) none) (ht : slk P t = some (e, sz)) (hx : evA tm x = some (.ro sz es)) (hy : sc tm y = some (.int k n)) (h0 : 0 ≤ n) (h1 : n ≤ (es.length : Int)) (he : es.take n.toNat = es2) :
    QOp P o tm M (.ro sz es2) := he ▸ fun base w0 a w Fx β hh hs => by
  have hrep := hs.ev hx
  generalize hu : a.eval x = u at hrep
  cases hrep with
  | @ro _ _ A cap f hc hm hA hl h1c h =>
    have hun := (slk_inv ht).1
    obtain ⟨i0, hi0, hs0⟩ := info_size (slk_inv ht).2
    have hun2 : P.underlying t = some (.slice (P.elem t)) := by rw [elem_of hun]; exact hun
    refine ⟨sliced A 0 n.toNat cap sz, fun w' _ => ?_, ?_⟩
    · simp [execOp, ho, hu, hs.sc hy, run_sliceAt_slice w' t _ _ _ _ hun2, run_slice_h w' t A es.length cap hun2 k n h0 (by omega), elem_of hun, sizeOf, typeInfo, hi0, hs0, Result.andThen]
    · have e1 : n.toNat - 0 = (es.take n.toNat).length := by simp; omega
      have tk : ∀ {i : Nat} {r : List AV}, (es.take n.toNat)[i]? = some r → es[i]? = some r := fun {i r} hr => by
        rw [List.getElem?_take] at hr
        split at hr
        · exact hr
        · cases hr
      unfold sliced
      rw [e1, Nat.sub_zero]
      refine .ro f (by rw [← e1]; omega) (by rw [← e1]; omega) (fun hp => ?_) (fun i r hr => hl i r (tk hr)) h1c (fun i r j z hr hz => h i r j z (tk hr) hz)
      have hlt : 0 < es.length := by rw [← e1] at hp; omega
      obtain ⟨ad, rfl, hF, hcell⟩ := hA hlt
      refine ⟨ad, ?_, hF, fun i r j hr hj => hcell i r j (tk hr) hj⟩
      split
      · rfl
      · simp [Addr.add]
end

section
variable {P : Program} {E : Env} {tm : List AV} {M : Mem} {o : Oper} {w : World} {Fx : Nat → Prop} {β : List Hd} {G : List (Option Nat)}
theorem CellsD.take {pv : Nat → Prop} {hb : Option Nat} {sz : Nat} {es : List (List AV)} {xs : List Value} (h : CellsD w Fx β G pv hb sz es xs) (k : Nat) : CellsD w Fx β G pv hb sz (es.take k) (xs.take (k * sz)) := by
  have hl := h.len
  obtain ⟨h1, h2, pc, h3, h4, h5⟩ := h
  have tk : ∀ {i : Nat} {r : List AV}, (es.take k)[i]? = some r → i < k ∧ es[i]? = some r := fun {i r} hr => by
    rw [List.getElem?_take] at hr
    split at hr
    · exact ⟨by assumption, hr⟩
    · cases hr
  have tx : ∀ {i j : Nat}, i < k → j < sz → (xs.take (k * sz))[i * sz + j]? = xs[i * sz + j]? := fun {i j} hi hj => by
    have : (i + 1) * sz ≤ k * sz := Nat.mul_le_mul_right _ hi
    rw [List.getElem?_take, if_pos (by rw [Nat.add_mul] at this; omega)]
  refine ⟨?_, fun i r hr => ⟨(h2 i r (tk hr).2).1, fun j x hx => ?_⟩, pc, h3, h4, fun i r j d hr hx => ?_⟩
  · rw [List.length_take, List.length_take, hl]
    rcases Nat.le_total k es.length with h | h
    · rw [Nat.min_eq_left h, Nat.min_eq_left (Nat.mul_le_mul_right _ h)]
    · rw [Nat.min_eq_right h, Nat.min_eq_right (Nat.mul_le_mul_right _ h)]
  · obtain ⟨u, hu, ho, hR⟩ := (h2 i r (tk hr).2).2 j x hx
    exact ⟨u, by rw [tx (tk hr).1 (by rw [← (h2 i r (tk hr).2).1]; exact (List.getElem?_eq_some_iff.1 hx).1)]; exact hu, ho, hR⟩
  · obtain ⟨u, hu, hR⟩ := h5 i r j d (tk hr).2 hx
    exact ⟨u, by rw [tx (tk hr).1 (by rw [← (h2 i r (tk hr).2).1]; exact (List.getElem?_eq_some_iff.1 hx).1)]; exact hu, hR⟩
end

section
variable {P : Program} {E : Env} {tm : List AV} {M : Mem} {o : Oper}
theorem POp.lit0 {t : TypeId} {sz : Nat} {es : List (List AV)} (h : RowRun P o E tm M t sz es) (hc : ∀ r ∈ es, ∀ x ∈ r, Clo x) : POp P o E tm M (.ro sz es) M := by
  intro a w K Q Fx β hh hsl hk
  obtain ⟨v, w', xs, hrun, hg, hown, hfr, hcell⟩ := h a w Fx β hh hsl
  obtain ⟨h1, hx⟩ := hh.addRow hg hown hfr hcell
  have hM : (M ++ [some ⟨t, sz, 0, false, es⟩])[M.length]? = some (some ⟨t, sz, 0, false, es⟩) := by simp
  have hv : (β ++ [Hd.flat v])[M.length]? = some (Hd.flat v) := by rw [← hh.len]; simp
  obtain ⟨h2, m2, hrep⟩ := h1.freeze hM hv rfl hc
  obtain ⟨h3, m3⟩ := hh.step (w' := w') ⟨hg.os, hg.tape, hg.output, hg.size, fun k hk => hg.block k hk (by simp)⟩
  have hF : ∀ k, (Hd.flat v).has k → w.heap.size ≤ k := fun k hk => by
    rcases hk with hk | hk
    · exact hfr k hk
    · exact hk.elim
  have m4 : Mv w' Fx β (gens M) w' (fun k => Fx k ∨ (Hd.flat v).has k) β (gens M) := ⟨fun k h => .inl h, fun _ _ => rfl, Nat.le_refl _, fun id g' _ h => ⟨g', h, Nat.le_refl _, fun _ => rfl⟩⟩
  have h4 : HS E.base E.w0 w' (fun k => Fx k ∨ (Hd.flat v).has k) β M := by
    refine ⟨h3.bel, h3.bs, h2.fx, h3.len, fun id b hb => ?_, h3.inj⟩
    obtain ⟨u, hu, hk'⟩ := h3.blk id b hb
    refine ⟨u, hu, hk'.mv m4 (Nat.le_refl _) (fun _ _ => rfl) (fun k hk2 hF2 => ?_)⟩
    rcases hF2 with hF2 | hF2
    · exact (hk'.1 k hk2).2.2 hF2
    · obtain ⟨u0, hu0, hk0⟩ := hh.blk id b hb
      rw [hu] at hu0
      obtain rfl := Option.some.inj hu0
      have := (hk0.1 k hk2).2.1
      have := hF k hF2
      omega
  unfold Oper.wp
  rw [hrun, Oper.upon_value]
  refine hk _ _ _ _ h4 ⟨m3.trans m4, hg.size, fun k hk => ?_, fun id b u k g1 g2 g3 => .inr ⟨id, b, u, g1, g2, g3⟩⟩ ((Clo.ro hc _ _ _ _ _ hrep.cr).of_clo)
  rcases hk with hk | hk
  · exact .inl hk
  · exact .inr (.inl (hF k hk))
end

end Go.Proofs.YtpffahmmklpifaaGreat.Abs

/- The walk of a number put into a list in its order. -/
namespace Go.Proofs.YtpffahmmklpifaaGreat.Abs
open Go.Proofs Go.RowKit
set_option linter.unusedVariables false
set_option linter.unusedSimpArgs false
set_option maxRecDepth 100000
set_option maxHeartbeats 2000000
attribute [local irreducible] OpA AL AW DL DLM DLR DLS QOp POp VCalls VCallsI
def posI (l : List Int) (x : Int) : Nat := (l.takeWhile fun y => decide (y < x)).length
theorem posI_le : ∀ (l : List Int) (x : Int), posI l x ≤ l.length
  | [], _ => Nat.le_refl _
  | y :: l, x => by
    unfold posI
    rw [List.takeWhile_cons]
    split
    · have := posI_le l x
      unfold posI at this
      simp only [List.length_cons]
      omega
    · exact Nat.zero_le _
theorem posI_lt : ∀ {l : List Int} {x : Int} {i : Nat}, i < posI l x → ∃ y, l[i]? = some y ∧ decide (y < x) = true
  | [], x, i, h => by simp [posI] at h
  | y :: l, x, i, h => by
    unfold posI at h
    rw [List.takeWhile_cons] at h
    split at h
    · rename_i hy
      cases i with
      | zero => exact ⟨y, rfl, hy⟩
      | succ i =>
        simp only [List.length_cons] at h
        exact posI_lt (l := l) (x := x) (i := i) (by unfold posI; omega)
    · simp at h
theorem posI_at : ∀ {l : List Int} {x y : Int}, l[posI l x]? = some y → decide (y < x) = false
  | [], x, y, h => by simp at h
  | z :: l, x, y, h => by
    unfold posI at h
    rw [List.takeWhile_cons] at h
    split at h
    · simp only [List.length_cons, List.getElem?_cons_succ] at h
      exact posI_at (l := l) (x := x) h
    · rename_i hz
      simp only [List.length_nil, List.getElem?_cons_zero, Option.some.injEq] at h
      subst h
      simpa using hz
def putI (l : List Int) (x : Int) : List Int := if l[posI l x]? = some x then l else l.take (posI l x) ++ [x] ++ l.drop (posI l x)
theorem putI_y {l : List Int} {x y : Int} (h : l[posI l x]? = some y) (e : (y == x) = true) : putI l x = l := by
  unfold putI
  rw [if_pos (by rw [h]; simpa using e)]
theorem putI_n {l : List Int} {x y : Int} (h : l[posI l x]? = some y) (e : (y == x) = false) : putI l x = l.take (posI l x) ++ [x] ++ l.drop (posI l x) := by
  unfold putI
  rw [if_neg (by rw [h]; simpa using e)]
theorem putI_end {l : List Int} {x : Int} (h : posI l x = l.length) : putI l x = l.take l.length ++ [x] ++ l.drop l.length := by
  unfold putI
  rw [h, if_neg (by rw [List.getElem?_eq_none (Nat.le_refl _)]; simp)]
theorem put14_s (l : List Int) (x : Int) (hl : l.length ≤ 1048576) : VCalls Tryz.prog 54 [.ro 1 (l.map enI), I x] (fun r M => r = .own 0 0 ∧ M = [some ⟨3, 1, 0, false, (putI l x).map enI⟩]) := by
  refine VB Tryz.func54 45 (fun E hE => ?_)
  have hclo : Clo (.ro 1 (l.map enI)) := clo_list (fun n => clo_cons (clo_c _) clo_nil)
  repeat' ((first
    | (refine iAL ?_; first | refine AL.any ?_ | refine AL.U ?_ | refine AL.F ?_ | refine AL.T ?_ | refine AL.W ?_ | refine AL.nil ?_)
    | ((with_reducible show DL ..); first | refine DL.any ?_ | refine DL.nil ?_)
    | ((with_reducible show DLR ..); first | refine DLR.any ?_ | refine DLR.alloc rfl rfl (by first | exact ze2 | exact ze3 | exact ze4 | exact ze5 | exact ze6 | exact ze8 | exact ze9 | exact ze10 | exact ze11 | exact ze12 | exact ze13 | exact ze14 | exact ze15 | exact ze16 | exact ze17 | exact ze18 | exact ze19 | exact ze22 | exact ze23 | exact ze24 | exact ze25 | exact ze26 | exact ze27 | exact ze28 | exact ze31 | exact ze32 | exact ze33 | exact ze34 | exact ze36 | exact ze42 | exact ze56 | exact ze129 | exact ze132) rfl rfl ?_ | refine DLR.box rfl rfl (by rfl) (by rfl) rfl rfl ?_ | refine DLR.store rfl rfl (by rfl) rfl rfl rfl rfl rfl (by rfl) (by rfl) (TT_ok.ld _ _ (by rfl)) (by rfl) (by rfl) rfl ?_ | refine DLR.row rfl (fun Y => RowRun.empty (by rfl) (by rfl) (by first | exact rwk22 | exact rwk23 | exact rwk24 | exact rwk31 | exact rwk32 | exact rwk33 | exact rwk56)) rfl rfl ?_ | refine DLR.row rfl (fun Y => RowRun.literal (by rfl) (by first | exact rwk22 | exact rwk23 | exact rwk24 | exact rwk31 | exact rwk32 | exact rwk33 | exact rwk56) (by rfl) (by rfl) (by rfl) (by rfl) (by rfl) (by rfl)) rfl rfl ?_ | refine DLR.append rfl (by rfl) (by first | exact rwk22 | exact rwk23 | exact rwk24 | exact rwk31 | exact rwk32 | exact rwk33 | exact rwk56) (by rfl) rfl rfl rfl rfl rfl rfl (by rfl) (by first | (simp <;> omega) | omega) (by first | (simp [maxLen] <;> omega) | (simp_all [maxLen] <;> omega)) ?_ | refine DLR.nil ?_)
    | (refine iAW ?_; first | (refine AW.c0 ?_; constructor) | refine AW.drawnR (id := 6) 11 1 [some 0, none, none, none, some 0, none, none, some 0, none, none, none] [some Rsv] rfl (by kernel_rfl) (by kernel_rfl) (by kernel_rfl) (by rfl) ?_ | refine AW.cT ?_ | refine AW.cF ?_ | (refine AW.c2 ?_ ?_ <;> (intro h; try simp only [bT, bF] at h)))
    | ((with_reducible show DLR ..); first | refine DLR.any (h := fun Y => POp.quiet (QOp.cut_h (by rfl) slk56 (by rfl) (by rfl) (by first | decide | omega) (by first | assumption | omega) (by assumption))) ?_ | refine DLR.any (h := fun Y => POp.quiet (QOp.cut_l (by rfl) slk56 (by rfl) (by rfl) (by first | decide | omega) (by first | assumption | omega) (by assumption))) ?_ | refine DLR.any (h := fun Y => POp.lit0 (RowRun.literal (by rfl) rwk56 (by rfl) (by rfl) (by rfl) (by rfl) (by rfl) (by rfl)) (clo_rows_b rfl)) ?_)
    | (refine AW.loopD hE (fun i : Nat => [.ro 1 (l.map enI), I x, .any, .any, .any, I (i : Int), .any, .any, .any, .any, .any, .any, .any, .any, .any, .any, .any, .any, .any, .any, .any, .any, .any, .any, .any, .any, .any, .any, .any, .any, .any, .any, .any, .any, .any, .any, .any, .any, .any, .any, .any, .any, .any, .any, .any, .any, .any]) (fun i => []) (fun i => (posI l x) - i) (fun i => i ≤ posI l x) 0 (Nat.zero_le _) ?_ (by first | rfl | (simp [fil_zero]; done)) ?_
       (focus (exact wkI))
       intro i hi
       by_cases hlt : i < (posI l x)
       case' pos =>
         have hP := True.intro
         obtain ⟨y, hy, hyl⟩ := posI_lt hlt
         have hN := (List.getElem?_eq_some_iff.1 hy).1
         have hg := map_get (f := enI) hy
         have ht := lt_true (f := enI) hN
         have hn := next_ix hN (by omega)
       case' neg =>
         have hQ := True.intro
         have e : i = (posI l x) := by omega
         subst e
         have hle := posI_le l x
         obtain ⟨K, hK⟩ : ∃ K, K = posI l x := ⟨_, rfl⟩
         rw [← hK] at hle ⊢
         have hK1 : ((K : Nat) : Int) ≤ ((l.map enI).length : Int) := by rw [List.length_map]; omega
         have hd0 : (l.map enI).drop ((K : Nat) : Int).toNat = (l.drop K).map enI := by rw [Int.toNat_natCast, List.map_drop]
         have ht0 : (l.map enI).take ((K : Nat) : Int).toNat = (l.take K).map enI := by rw [Int.toNat_natCast, List.map_take]
         have hc1 : Clo (.ro 1 ((l.take K).map enI)) := clo_list (fun n => clo_cons (clo_c _) clo_nil)
         have hc2 : Clo (.ro 1 ((l.drop K).map enI)) := clo_list (fun n => clo_cons (clo_c _) clo_nil)
         have hl1 : (l.take K).length ≤ 1048576 := by rw [List.length_take]; omega
         have hl2 : (l.drop K).length ≤ 1048576 := by rw [List.length_drop]; omega
         have hap : (l.take K ++ [x] ++ l.drop K).map enI = (l.take K).map enI ++ [[I x]] ++ (l.drop K).map enI := by rw [List.map_append, List.map_append]; rfl
         have hdc : DCl ((l.take K).map enI ++ [[I x]] ++ (l.drop K).map enI) := hap ▸ DCl.map (fun _ => rfl)
         rcases Nat.lt_or_ge K l.length with hlt2 | hlt2
         rotate_left 1
         have hpe : putI l x = l.take K ++ [x] ++ l.drop K := by
           have e2 : posI l x = l.length := by omega
           rw [putI_end e2, hK, e2]
         have ht : decide (((K : Nat) : Int) < ((l.map enI).length : Int)) = false := by rw [List.length_map]; simp; omega
         rotate_left 1
         obtain ⟨y, hy⟩ : ∃ y, l[K]? = some y := ⟨_, List.getElem?_eq_getElem hlt2⟩
         have hyl := posI_at (l := l) (x := x) (y := y) (by rw [← hK]; exact hy)
         have hN := (List.getElem?_eq_some_iff.1 hy).1
         have hg := map_get (f := enI) hy
         have ht := lt_true (f := enI) hN
         rcases Bool.eq_false_or_eq_true (y == x) with hyx | hyx
         have hpe : putI l x = l := putI_y (by rw [← hK]; exact hy) hyx
         rotate_left 1
         have hpe : putI l x = l.take K ++ [x] ++ l.drop K := by rw [putI_n (by rw [← hK]; exact hy) hyx, ← hK]
         rotate_left 1)
    | with_reducible refine ifP ?_
    | with_reducible refine ifN ?_) <;> (try dsimp only))
  all_goals first
    | (have _ := hP; (refine ⟨i + 1, _, hlt, by omega, ?_, rfl, ?_, ?_⟩; (focus (exact wkN)); (focus (exact fitsA)); (focus (exact FitsM.nil _))))
    | (have _ := hQ; first | exact Fin.r1 [0] rfl (RV.tmp (by rfl)) ⟨rfl, by rw [hpe, hap] <;> rfl⟩ (hok := ⟨⟨_, rfl, hdc⟩, trivial⟩) | exact Fin.r1 [0] rfl (RV.tmp (by rfl)) ⟨rfl, by rw [hpe] <;> rfl⟩)

theorem put14_s' (l : List Int) (x : Int) (hl : l.length ≤ 1048576) : VCalls Tryz.prog 54 [.ro 1 (l.map enI), I x] (fun r M => r = .ro 1 ((putI l x).map enI) ∧ M = []) := VCalls.frz (put14_s l x hl) vwlT
section
variable {α : Type}
structure STO (lt : α → α → Prop) : Prop where
  irr : ∀ x, ¬ lt x x
  tr : ∀ x y z, lt x y → lt y z → lt x z
  tri : ∀ x y, lt x y ∨ x = y ∨ lt y x
theorem asc_ext {lt : α → α → Prop} (h : STO lt) : ∀ {l m : List α}, l.Pairwise lt → m.Pairwise lt → (∀ x, x ∈ l ↔ x ∈ m) → l = m
  | [], [], _, _, _ => rfl
  | [], b :: m, _, _, he => by have := (he b).2 List.mem_cons_self; simp at this
  | a :: l, [], _, _, he => by have := (he a).1 List.mem_cons_self; simp at this
  | a :: l, b :: m, hl, hm, he => by
    obtain ⟨hl1, hl2⟩ := List.pairwise_cons.1 hl
    obtain ⟨hm1, hm2⟩ := List.pairwise_cons.1 hm
    have e : a = b := by
      rcases List.mem_cons.1 ((he a).1 List.mem_cons_self) with h1 | h1
      · exact h1
      · rcases List.mem_cons.1 ((he b).2 List.mem_cons_self) with h2 | h2
        · exact h2.symm
        · exact absurd (h.tr _ _ _ (hm1 a h1) (hl1 b h2)) (h.irr b)
    subst e
    have hno : ∀ {k : List α}, (∀ y ∈ k, lt a y) → a ∉ k := fun hk ha => h.irr a (hk a ha)
    rw [asc_ext h hl2 hm2 fun x => ⟨fun hx => by
      rcases List.mem_cons.1 ((he x).1 (List.mem_cons_of_mem _ hx)) with rfl | h1
      · exact absurd hx (hno hl1)
      · exact h1, fun hx => by
      rcases List.mem_cons.1 ((he x).2 (List.mem_cons_of_mem _ hx)) with rfl | h1
      · exact absurd hx (hno hm1)
      · exact h1⟩]
variable [DecidableEq α]
end
theorem sto_int : STO (fun x y : Int => x < y) := ⟨fun x => Int.lt_irrefl x, fun x y z => Int.lt_trans, fun x y => by omega⟩
theorem putI_asc {l : List Int} (hl : l.Pairwise (· < ·)) (x : Int) : (putI l x).Pairwise (· < ·) ∧ ∀ y, y ∈ putI l x ↔ y = x ∨ y ∈ l := by
  have hlow : ∀ y ∈ l.take (posI l x), y < x := fun y hy => by
    obtain ⟨q, hq⟩ := List.getElem?_of_mem hy
    rw [List.getElem?_take] at hq
    split at hq
    · rename_i hlt
      obtain ⟨z, hz, hz2⟩ := posI_lt hlt
      rw [hz] at hq
      obtain rfl := Option.some.inj hq
      simpa using hz2
    · cases hq
  have hhigh : ∀ y ∈ l.drop (posI l x), x ≤ y := fun y hy => by
    obtain ⟨q, hq⟩ := List.getElem?_of_mem hy
    rw [List.getElem?_drop] at hq
    have hlt : posI l x < l.length := by have := (List.getElem?_eq_some_iff.1 hq).1; omega
    have h1 := posI_at (List.getElem?_eq_getElem hlt)
    simp at h1
    rcases Nat.eq_zero_or_pos q with e | e
    · subst e
      rw [Nat.add_zero, List.getElem?_eq_getElem hlt] at hq
      obtain rfl := Option.some.inj hq
      exact h1
    · have hq2 := (List.getElem?_eq_some_iff.1 hq).1
      have := List.pairwise_iff_getElem.1 hl (posI l x) (posI l x + q) hlt hq2 (by omega)
      rw [List.getElem?_eq_getElem hq2] at hq
      obtain rfl := Option.some.inj hq
      omega
  have hsplit : ∀ y, y ∈ l ↔ y ∈ l.take (posI l x) ∨ y ∈ l.drop (posI l x) := fun y => by
    rw [← List.mem_append, List.take_append_drop]
  unfold putI
  split
  · rename_i h
    exact ⟨hl, fun y => ⟨.inr, fun hy => hy.elim (fun e => by rw [e]; exact List.mem_of_getElem? h) id⟩⟩
  · rename_i h
    refine ⟨?_, fun y => ?_⟩
    · rw [List.pairwise_append, List.pairwise_append]
      refine ⟨⟨hl.sublist (List.take_sublist _ _), by simp, fun y hy z hz => ?_⟩, hl.sublist (List.drop_sublist _ _), fun y hy z hz => ?_⟩
      · simp at hz; subst hz; exact hlow y hy
      · have hxz : x < z := by
          have h1 := hhigh z hz
          rcases Int.lt_or_le x z with h2 | h2
          · exact h2
          · exfalso
            have e : z = x := by omega
            subst e
            obtain ⟨q, hq⟩ := List.getElem?_of_mem hz
            rw [List.getElem?_drop] at hq
            rcases Nat.eq_zero_or_pos q with e0 | e0
            · subst e0; exact h hq
            · have hlt : posI l z < l.length := by have := (List.getElem?_eq_some_iff.1 hq).1; omega
              have hq2 := (List.getElem?_eq_some_iff.1 hq).1
              have h3 := List.pairwise_iff_getElem.1 hl (posI l z) (posI l z + q) hlt hq2 (by omega)
              rw [List.getElem?_eq_getElem hq2] at hq
              have h4 := hhigh l[posI l z] (List.mem_of_getElem? (i := 0) (by rw [List.getElem?_drop, Nat.add_zero, List.getElem?_eq_getElem hlt]))
              have := Option.some.inj hq
              omega
        rcases List.mem_append.1 hy with hy | hy
        · exact Int.lt_trans (hlow y hy) hxz
        · simp at hy; subst hy; exact hxz
    · rw [List.mem_append, List.mem_append, hsplit y, List.mem_singleton]
      constructor
      · rintro ((h1 | h1) | h1)
        · exact .inr (.inl h1)
        · exact .inl h1
        · exact .inr (.inr h1)
      · rintro (h1 | h1 | h1)
        · exact .inl (.inr h1)
        · exact .inl (.inl h1)
        · exact .inr h1
def putIs (l : List Int) : List Int → List Int
  | [] => l
  | x :: xs => putIs (putI l x) xs
theorem putIs_asc : ∀ {xs l : List Int}, l.Pairwise (· < ·) → (putIs l xs).Pairwise (· < ·) ∧ ∀ y, y ∈ putIs l xs ↔ y ∈ xs ∨ y ∈ l
  | [], l, hl => ⟨hl, fun y => by simp [putIs]⟩
  | x :: xs, l, hl => by
    obtain ⟨h1, h2⟩ := putI_asc hl x
    obtain ⟨h3, h4⟩ := putIs_asc (xs := xs) h1
    refine ⟨h3, fun y => ?_⟩
    rw [putIs, h4, h2, List.mem_cons]
    constructor
    · rintro (h | h | h) <;> simp [h]
    · rintro ((h | h) | h) <;> simp [h]
theorem putIs_app : ∀ (xs ys l : List Int), putIs l (xs ++ ys) = putIs (putIs l xs) ys
  | [], _, _ => rfl
  | x :: xs, ys, l => by rw [List.cons_append, putIs, putIs_app xs ys, putIs]

section
variable {α : Type}
def posR (p : α → Bool) (l : List α) : Nat := l.length - (l.reverse.takeWhile p).length
theorem takeWhile_le (p : α → Bool) : ∀ l : List α, (l.takeWhile p).length ≤ l.length
  | [] => Nat.le_refl _
  | a :: l => by
    rw [List.takeWhile_cons]
    split
    · have := takeWhile_le p l; simp only [List.length_cons]; omega
    · simp
theorem takeWhile_lt {p : α → Bool} : ∀ {l : List α} {i : Nat}, i < (l.takeWhile p).length → ∃ y, l[i]? = some y ∧ p y = true
  | [], i, h => by simp at h
  | a :: l, i, h => by
    rw [List.takeWhile_cons] at h
    split at h
    · cases i with
      | zero => exact ⟨a, rfl, by assumption⟩
      | succ i => exact takeWhile_lt (l := l) (by simpa using h)
    · simp at h
theorem takeWhile_at {p : α → Bool} : ∀ {l : List α} {y : α}, l[(l.takeWhile p).length]? = some y → p y = false
  | [], y, h => by simp at h
  | a :: l, y, h => by
    rw [List.takeWhile_cons] at h
    split at h
    · exact takeWhile_at (l := l) (by simpa using h)
    · rename_i hp
      simp only [List.length_nil, List.getElem?_cons_zero, Option.some.injEq] at h
      subst h
      simpa using hp
theorem posR_le (p : α → Bool) (l : List α) : posR p l ≤ l.length := Nat.sub_le _ _
theorem posR_ge {p : α → Bool} {l : List α} {i : Nat} {y : α} (hi : posR p l ≤ i) (hy : l[i]? = some y) : p y = true := by
  have hlt := (List.getElem?_eq_some_iff.1 hy).1
  have h1 := takeWhile_le p l.reverse
  rw [List.length_reverse] at h1
  unfold posR at hi
  obtain ⟨z, hz, hpz⟩ := takeWhile_lt (p := p) (l := l.reverse) (i := l.length - 1 - i) (by omega)
  rw [List.getElem?_reverse (by omega), show l.length - 1 - (l.length - 1 - i) = i by omega, hy] at hz
  obtain rfl := Option.some.inj hz
  exact hpz
theorem posR_lt {p : α → Bool} {l : List α} {y : α} (h0 : 0 < posR p l) (hy : l[posR p l - 1]? = some y) : p y = false := by
  have h1 := takeWhile_le p l.reverse
  rw [List.length_reverse] at h1
  unfold posR at hy h0
  refine takeWhile_at (p := p) (l := l.reverse) ?_
  rw [List.getElem?_reverse (by omega), ← hy]
  congr 1
  omega
def insR (p : α → Bool) (l : List α) (x : α) : List α := l.take (posR p l) ++ [x] ++ l.drop (posR p l)
theorem insR_asc {lt : α → α → Prop} (h : STO lt) {p : α → Bool} {x : α} (hp : ∀ y, p y = true ↔ lt x y) {l : List α} (hl : l.Pairwise lt) :
    (∀ y ∈ l.drop (posR p l), lt x y) ∧ (∀ y ∈ l.take (posR p l), lt y x ∨ y = x) ∧ ((0 < posR p l → l[posR p l - 1]? ≠ some x) → x ∉ l ∧ (insR p l x).Pairwise lt) := by
  have hhigh : ∀ y ∈ l.drop (posR p l), lt x y := fun y hy => by
    obtain ⟨q, hq⟩ := List.getElem?_of_mem hy
    rw [List.getElem?_drop] at hq
    exact (hp y).1 (posR_ge (Nat.le_add_right _ _) hq)
  have hlow : ∀ i y, i < posR p l → l[i]? = some y → lt y x ∨ (y = x ∧ i = posR p l - 1) := fun i y hi hy => by
    have hle := posR_le p l
    have hlast := List.getElem?_eq_getElem (l := l) (i := posR p l - 1) (by omega)
    have hnl := posR_lt (by omega) hlast
    have hz : lt l[posR p l - 1] x ∨ l[posR p l - 1] = x := by
      rcases h.tri l[posR p l - 1] x with h1 | h1 | h1
      · exact .inl h1
      · exact .inr h1
      · rw [(hp _).2 h1] at hnl; cases hnl
    rcases Nat.lt_or_ge i (posR p l - 1) with h2 | h2
    · have h3 := List.pairwise_iff_getElem.1 hl i (posR p l - 1) (by omega) (by omega) h2
      rw [List.getElem?_eq_getElem (by omega)] at hy
      obtain rfl := Option.some.inj hy
      rcases hz with hz | hz
      · exact .inl (h.tr _ _ _ h3 hz)
      · rw [hz] at h3; exact .inl h3
    · have e : i = posR p l - 1 := by omega
      subst e
      rw [hlast] at hy
      obtain rfl := Option.some.inj hy
      exact hz.imp id fun e => ⟨e, rfl⟩
  have hlow' : ∀ y ∈ l.take (posR p l), ∃ i, i < posR p l ∧ l[i]? = some y := fun y hy => by
    obtain ⟨q, hq⟩ := List.getElem?_of_mem hy
    rw [List.getElem?_take] at hq
    split at hq
    · exact ⟨q, by assumption, hq⟩
    · cases hq
  refine ⟨hhigh, fun y hy => ?_, fun hne => ?_⟩
  · obtain ⟨i, hi, hy⟩ := hlow' y hy
    exact (hlow i y hi hy).imp id And.left
  · have hlt : ∀ y ∈ l.take (posR p l), lt y x := fun y hy => by
      obtain ⟨i, hi, hy⟩ := hlow' y hy
      rcases hlow i y hi hy with h1 | ⟨rfl, rfl⟩
      · exact h1
      · exact absurd hy (hne (by omega))
    refine ⟨fun hx => ?_, ?_⟩
    · rw [← List.take_append_drop (posR p l) l, List.mem_append] at hx
      rcases hx with hx | hx
      · exact h.irr _ (hlt _ hx)
      · exact h.irr _ (hhigh _ hx)
    · unfold insR
      rw [List.pairwise_append, List.pairwise_append]
      refine ⟨⟨hl.sublist (List.take_sublist _ _), by simp, fun y hy z hz => ?_⟩, hl.sublist (List.drop_sublist _ _), fun y hy z hz => ?_⟩
      · simp at hz; subst hz; exact hlt y hy
      · rcases List.mem_append.1 hy with hy | hy
        · exact h.tr _ _ _ (hlt y hy) (hhigh z hz)
        · simp at hy; subst hy; exact hhigh z hz
end

open Go.Sort
instance : DecidableEq TPiece := fun a b => decidable_of_iff (a.id = b.id ∧ a.part = b.part) ⟨fun ⟨h1, h2⟩ => by cases a; cases b; simp_all, fun h => by rw [h]; exact ⟨rfl, rfl⟩⟩
instance : Inhabited TPiece := ⟨⟨0, 0⟩⟩
def cmpZ (x y : Int) : Int := if x < y then -1 else if x > y then 1 else 0
theorem getD_some {α : Type} {l : List α} {i : Nat} (h : i < l.length) : ∃ x, l[i]? = some x := ⟨_, List.getElem?_eq_getElem h⟩
section
variable {α : Type} [DecidableEq α]
end
theorem src_iff (l : List TFeature) : isSource l = true ↔ l.length ≤ 16 ∧ (∀ x ∈ l, isFeat x = true) ∧ l.Pairwise fun x y => x.id < y.id := by
  constructor
  · intro h
    refine ⟨src_len h, fun x hx => ?_, ?_⟩
    · obtain ⟨i, hi⟩ := List.getElem?_of_mem hx
      exact src_feat h hi
    · rw [List.pairwise_iff_getElem]
      intro i j hi hj hij
      exact src_inc h i j _ _ hij (List.getElem?_eq_getElem hi) (List.getElem?_eq_getElem hj)
  · rintro ⟨h1, h2, h3⟩
    unfold isSource
    rw [Bool.and_eq_true]
    refine ⟨?_, by simp; omega⟩
    unfold srcOk
    rw [List.all_eq_true]
    intro i hi
    have hi : i < l.length := List.mem_range.1 hi
    have hx : l[i]? = some l[i] := List.getElem?_eq_getElem hi
    unfold srcAt
    rw [hx]
    simp only [Bool.and_eq_true, h2 _ (List.getElem_mem hi), true_and]
    rcases Nat.eq_zero_or_pos i with h0 | h0
    · subst h0; rfl
    · rw [Bool.or_eq_true]
      right
      have hp : prevF l i = l[i - 1] := by
        unfold prevF
        rw [List.getD_eq_getElem?_getD, List.getElem?_eq_getElem (by omega)]
        rfl
      rw [hp, decide_eq_true_eq]
      exact List.pairwise_iff_getElem.1 h3 (i - 1) i (by omega) hi (by omega)
theorem src_filter {l : List TFeature} (h : isSource l = true) (p : TFeature → Bool) : isSource (l.filter p) = true := by
  obtain ⟨h1, h2, h3⟩ := (src_iff l).1 h
  exact (src_iff _).2 ⟨Nat.le_trans (List.length_filter_le _ _) h1, fun x hx => h2 x (List.mem_filter.1 hx).1, h3.filter _⟩
theorem feat_bd {x : TFeature} (h : isFeat x = true) : inr x.id 1 99 = true ∧ inr x.rank 0 9 = true ∧ (noName x.name || isName x.name) = true ∧ kindOk x = true := by
  unfold isFeat at h
  simp only [Bool.and_eq_true] at h
  exact ⟨h.1.1.1, h.1.1.2, h.1.2, h.2⟩
theorem kind_cases {x : TFeature} (h : kindOk x = true) : ((x.kind == 1) = true ∧ ∃ p, x.points = [p] ∧ isp p.x p.y = true) ∨ ((x.kind == 1) = false ∧ (x.kind == 2) = true ∧ (x.kind == 3) = false ∧ isSimple x.points = true) ∨ ((x.kind == 1) = false ∧ (x.kind == 2) = false ∧ (x.kind == 3) = true ∧ isRing x.points = true) := by
  unfold kindOk at h
  by_cases h1 : (x.kind == 1) = true
  · rw [if_pos h1, Bool.and_eq_true] at h
    left
    refine ⟨h1, ?_⟩
    have hl : x.points.length = 1 := by have := h.1; simp at this; omega
    obtain ⟨p, hp⟩ := List.length_eq_one_iff.1 hl
    exact ⟨p, hp, by have := h.2; rw [hp] at this; exact this⟩
  · rw [if_neg h1] at h
    by_cases h2 : (x.kind == 2) = true
    · rw [if_pos h2] at h
      have e := beq_iff_eq.1 h2
      exact .inr (.inl ⟨by simpa using h1, h2, by rw [e]; rfl, h⟩)
    · rw [if_neg h2] at h
      by_cases h3 : (x.kind == 3) = true
      · rw [if_pos h3] at h
        exact .inr (.inr ⟨by simpa using h1, by simpa using h2, h3, h⟩)
      · rw [if_neg h3] at h; cases h
def above (a b : TPlace) : Bool := decide (a.rank > b.rank) || (a.rank == b.rank && decide (a.id < b.id))
def far2 (p q : TPoint) : Int := (p.x - q.x) * (p.x - q.x) + (p.y - q.y) * (p.y - q.y)
theorem sq_bd {d : Int} (h : -200 ≤ d) (h2 : d ≤ 200) : 0 ≤ d * d ∧ d * d ≤ 40000 := by
  have e : d * d = (d.natAbs : Int) * (d.natAbs : Int) := Int.natAbs_mul_self.symm.trans (by rw [Int.natCast_mul])
  have h3 : d.natAbs ≤ 200 := by omega
  have h4 : d.natAbs * d.natAbs ≤ 200 * 200 := Nat.mul_le_mul h3 h3
  rw [e]
  omega
theorem far_w {p q : TPoint} (hp : isp p.x p.y = true) (hq : isp q.x q.y = true) :
    IntKind.i64.wrap (IntKind.i64.wrap (IntKind.i64.wrap (p.x - q.x) * IntKind.i64.wrap (p.x - q.x)) + IntKind.i64.wrap (IntKind.i64.wrap (p.y - q.y) * IntKind.i64.wrap (p.y - q.y))) = far2 p q := by
  obtain ⟨a1, a2, a3, a4⟩ := isp_bd hp
  obtain ⟨b1, b2, b3, b4⟩ := isp_bd hq
  have h1 := sq_bd (d := p.x - q.x) (by omega) (by omega)
  have h2 := sq_bd (d := p.y - q.y) (by omega) (by omega)
  rw [w64 (n := p.x - q.x) (by omega) (by omega), w64 (n := p.y - q.y) (by omega) (by omega), w64 (n := (p.x - q.x) * (p.x - q.x)) (by omega) (by omega), w64 (n := (p.y - q.y) * (p.y - q.y)) (by omega) (by omega), w64 (by omega) (by omega)]
  rfl
theorem far2_comm (p q : TPoint) : far2 p q = far2 q p := by
  unfold far2
  have e1 : p.x - q.x = -(q.x - p.x) := by omega
  have e2 : p.y - q.y = -(q.y - p.y) := by omega
  rw [e1, e2, Int.neg_mul_neg, Int.neg_mul_neg]
structure PlOk (l : List TPlace) : Prop where
  len : l.length ≤ 16
  ok : ∀ x ∈ l, inr x.id 1 99 = true ∧ isp x.at_.x x.at_.y = true ∧ inr x.rank 0 9 = true
  asc : l.Pairwise fun x y => x.id < y.id
theorem pl_cases {l : List TPlace} (h : PlOk l) {i : Nat} {x : TPlace} (hx : l[i]? = some x) : (decide ((i : Int) > 0) = false) ∨ ∃ y : TPlace, decide ((i : Int) > 0) = true ∧ 0 ≤ IntKind.i64.wrap ((i : Int) - 1) ∧ (l.map TPlace.en)[(IntKind.i64.wrap ((i : Int) - 1)).toNat]? = some y.en ∧ decide (y.id ≥ x.id) = false ∧ decide (x.id ≤ y.id) = false := by
  have hil : i < l.length := (List.getElem?_eq_some_iff.1 hx).1
  have hl := h.len
  rcases Nat.eq_zero_or_pos i with h0 | h0
  · exact .inl (by simp; omega)
  · have hw : IntKind.i64.wrap ((i : Int) - 1) = ((i - 1 : Nat) : Int) := by rw [w64 (by omega) (by omega)]; omega
    have hlt := List.pairwise_iff_getElem.1 h.asc (i - 1) i (by omega) hil (by omega)
    have hxe : l[i] = x := by rw [List.getElem?_eq_getElem hil] at hx; exact Option.some.inj hx
    rw [hxe] at hlt
    exact .inr ⟨l[i - 1], by simp; omega, by omega, by rw [hw, Int.toNat_natCast, List.getElem?_map, List.getElem?_eq_getElem (by omega)]; rfl, by simp; omega, by simp; omega⟩
def plOf (x : TFeature) : TPlace := ⟨x.id, x.points.getD 0 ⟨0, 0⟩, x.rank⟩
def plsTo (l : List TFeature) (i : Nat) : List TPlace := ((l.take i).filter fun x => x.kind == 1).map plOf
def plsOf (l : List TFeature) : List TPlace := (l.filter fun x => x.kind == 1).map plOf
theorem plsTo_all (l : List TFeature) : plsTo l l.length = plsOf l := by rw [plsTo, List.take_length]; rfl
theorem plsTo_y {l : List TFeature} {i : Nat} {x : TFeature} (hx : l[i]? = some x) (h : (x.kind == 1) = true) : (plsTo l (i + 1)).map TPlace.en = (plsTo l i).map TPlace.en ++ [(plOf x).en] ∧ (plsTo l (i + 1)).length = (plsTo l i).length + 1 := by
  unfold plsTo
  rw [take_succ_of hx, List.filter_append]
  simp [List.filter_cons, h]
theorem plsTo_n {l : List TFeature} {i : Nat} {x : TFeature} (hx : l[i]? = some x) (h : (x.kind == 1) = false) : (plsTo l (i + 1)).map TPlace.en = (plsTo l i).map TPlace.en ∧ (plsTo l (i + 1)).length = (plsTo l i).length := by
  unfold plsTo
  rw [take_succ_of hx, List.filter_append]
  simp [List.filter_cons, h]
theorem plsTo_len (l : List TFeature) (i : Nat) : (plsTo l i).length ≤ i := by
  unfold plsTo
  rw [List.length_map]
  exact Nat.le_trans (List.length_filter_le _ _) (by rw [List.length_take]; omega)
theorem pl_point {x : TFeature} (hf : isFeat x = true) (h : (x.kind == 1) = true) : (x.points.map TPoint.en)[(0 : Int).toNat]? = some (plOf x).at_.en ∧ isp (plOf x).at_.x (plOf x).at_.y = true := by
  rcases kind_cases (feat_bd hf).2.2.2 with ⟨_, p, hp, hi⟩ | ⟨h1, _⟩ | ⟨h1, _⟩
  · unfold plOf
    rw [hp]
    exact ⟨rfl, hi⟩
  · rw [h] at h1; cases h1
  · rw [h] at h1; cases h1
theorem plsOf_ok {l : List TFeature} (hS : isSource l = true) : PlOk (plsOf l) := by
  obtain ⟨h1, h2, h3⟩ := (src_iff _).1 (src_filter hS fun x => x.kind == 1)
  refine ⟨by unfold plsOf; rw [List.length_map]; exact h1, fun x hx => ?_, ?_⟩
  · unfold plsOf at hx
    obtain ⟨y, hy, rfl⟩ := List.mem_map.1 hx
    obtain ⟨hm, hk⟩ := List.mem_filter.1 hy
    have hf := h2 y hy
    exact ⟨(feat_bd hf).1, (pl_point hf hk).2, (feat_bd hf).2.1⟩
  · unfold plsOf
    rw [List.pairwise_map]
    exact h3

theorem above_s (a b : TPlace) : VCalls Tryz.prog 227 [.agg a.en, .agg b.en] (fun r M => r = B (above a b) ∧ M = []) := by
  refine VB Tryz.func227 22 (fun E hE => ?_)
  dsimp only [TPlace.en]
  rcases Bool.eq_false_or_eq_true (decide (a.rank > b.rank)) with h1 | h1
  rotate_left 1
  rcases Bool.eq_false_or_eq_true (a.rank == b.rank) with h2 | h2
  repeat' ((first
    | (refine iAL ?_; first | refine AL.any ?_ | refine AL.U ?_ | refine AL.F ?_ | refine AL.T ?_ | refine AL.W ?_ | refine AL.nil ?_)
    | (refine iAW ?_; first | (refine AW.c0 ?_; constructor))) <;> (try dsimp only))
  all_goals exact Fin.one rfl (RV.tmp (by rfl)) (clo_c _) ⟨by (unfold above; simp only [*, Bool.true_or, Bool.false_or, Bool.true_and, Bool.false_and]), rfl⟩

theorem far_s (p q : TPoint) (hp : isp p.x p.y = true) (hq : isp q.x q.y = true) : VCalls Tryz.prog 228 [.agg p.en, .agg q.en] (fun r M => r = I (far2 p q) ∧ M = []) := by
  refine VB Tryz.func228 34 (fun E hE => ?_)
  have hw := far_w hp hq
  dsimp only [TPoint.en]
  repeat' ((first
    | (refine iAL ?_; first | refine AL.any ?_ | refine AL.any (h := POp.k Tryz.func170 (hc := by first | exact isp_s_t _ _ (by assumption) | exact isp_s_f _ _ (by assumption) | exact isp_s _ _)) ?_ | refine AL.U ?_ | refine AL.F ?_ | refine AL.T ?_ | refine AL.T (h := POp.k Tryz.func170 (hc := by first | exact isp_s_t _ _ (by assumption) | exact isp_s_f _ _ (by assumption) | exact isp_s _ _)) ?_ | refine AL.W ?_ | refine AL.W (h := fun h => by (try rw [h]); exact POp.k Tryz.func170 (hc := by first | exact isp_s_t _ _ (by assumption) | exact isp_s_f _ _ (by assumption) | exact isp_s _ _)) ?_ | refine AL.nil ?_)
    | (refine iAW ?_; first | (refine AW.c0 ?_; constructor) | refine AW.cT ?_ | refine AW.cF ?_ | (refine AW.c2 ?_ ?_ <;> (intro h; try simp only [bT, bF] at h)))) <;> (try dsimp only))
  all_goals exact Fin.one rfl (RV.tmp (by rfl)) (clo_c _) ⟨by rw [hw], rfl⟩

theorem far_i (p q : TPoint) (hp : isp p.x p.y = true) (hq : isp q.x q.y = true) : VCalls Tryz.prog 162 [.agg p.en, .agg q.en] (fun r M => r = I (far2 p q) ∧ M = []) := by
  refine VB Tryz.func162 30 (fun E hE => ?_)
  have hw := far_w hp hq
  dsimp only [TPoint.en]
  repeat' ((first
    | (refine iAL ?_; first | refine AL.any ?_ | refine AL.any (h := POp.k Tryz.func180 (hc := by first | exact isp_v_t _ _ (by assumption) | exact isp_v_f _ _ (by assumption) | exact isp_v _ _)) ?_ | refine AL.U ?_ | refine AL.F ?_ | refine AL.T ?_ | refine AL.T (h := POp.k Tryz.func180 (hc := by first | exact isp_v_t _ _ (by assumption) | exact isp_v_f _ _ (by assumption) | exact isp_v _ _)) ?_ | refine AL.W ?_ | refine AL.W (h := fun h => by (try rw [h]); exact POp.k Tryz.func180 (hc := by first | exact isp_v_t _ _ (by assumption) | exact isp_v_f _ _ (by assumption) | exact isp_v _ _)) ?_ | refine AL.nil ?_)
    | ((with_reducible show DL ..); first | refine DL.any ?_ | refine DL.nil ?_)
    | (refine iAW ?_; first | (refine AW.c0 ?_; constructor) | refine AW.dr (id := 3) 11 ?_ | refine AW.cT ?_ | refine AW.cF ?_ | (refine AW.c2 ?_ ?_ <;> (intro h; try simp only [bT, bF] at h)))) <;> (try dsimp only))
  all_goals exact Fin.one rfl (RV.tmp (by rfl)) (clo_c _) ⟨by rw [hw], rfl⟩

theorem arePl_s (l : List TPlace) (hp : PlOk l) : VCalls Tryz.prog 268 [.ro 4 (l.map TPlace.en)] (fun r M => r = B true ∧ M = []) := by
  refine VB Tryz.func268 55 (fun E hE => ?_)
  have hclo : Clo (.ro 4 (l.map TPlace.en)) := clo_list TPlace.clo_en
  have hpl := hp.len
  repeat' ((first
    | (refine iAL ?_; first | refine AL.any ?_ | refine AL.U ?_ | refine AL.F ?_ | refine AL.T ?_ | refine AL.W ?_ | refine AL.nil ?_)
    | ((with_reducible show DL ..); first | refine DL.any ?_ | refine DL.any (h := POp.k Tryz.func96 (hc := inr_s _ _ _)) ?_ | refine DL.U ?_ | refine DL.F ?_ | refine DL.T ?_ | refine DL.T (h := POp.k Tryz.func96 (hc := inr_s _ _ _)) ?_ | refine DL.T (h := POp.k Tryz.func170 (hc := by first | exact isp_s_t _ _ (by assumption) | exact isp_s_f _ _ (by assumption) | exact isp_s _ _)) ?_ | refine DL.W ?_ | refine DL.W (h := fun h => by (try rw [h]); exact POp.k Tryz.func96 (hc := inr_s _ _ _)) ?_ | refine DL.W (h := fun h => by (try rw [h]); exact POp.k Tryz.func170 (hc := by first | exact isp_s_t _ _ (by assumption) | exact isp_s_f _ _ (by assumption) | exact isp_s _ _)) ?_ | refine DL.nil ?_)
    | (refine iAW ?_; first | (refine AW.c0 ?_; constructor) | refine AW.dr (id := 4) 40 ?_ | refine AW.cT ?_ | refine AW.cF ?_ | (refine AW.c2 ?_ ?_ <;> (intro h; try simp only [bT, bF] at h)))
    | (refine AW.loopD hE (fun i : Nat => [.ro 4 (l.map TPlace.en), .any, .any, I (i : Int), .any, .any, .any, .any, .any, .any, .any, .any, .any, .any, .any, .any, .any, .any, .any, .any, .any, .any, .any, .any, .any, .any, .any, .any, .any, .any, .any, .any, .any, .any, .any, .any, .any, .any, .any, .any, .any, .any, .any, .any, .any, .any, .any, .any, .any, .any, .any, .any, .any, .any, .any, .any]) (fun i => []) (fun i => l.length - i) (fun i => i ≤ l.length) 0 (by simp) ?_ (by first | rfl | (simp [fil_zero]; done)) ?_
       (focus ((repeat' (first | exact Wk.nil | refine Wk.any ?_ | (with_reducible refine Wk.same ?_) | refine Wk.of ?_ ?_)) <;> first | rfl | (rfl)))
       intro i hi
       by_cases hlt : i < l.length
       case' pos =>
         have hP := True.intro
         obtain ⟨x, hx⟩ : ∃ x, l[i]? = some x := ⟨_, List.getElem?_eq_getElem hlt⟩
         have hg := map_get (f := TPlace.en) hx
         have ht := lt_true (f := TPlace.en) hlt
         have hn := next_ix hlt (by omega)
         have hxo := hp.ok x (List.mem_of_getElem? hx)
         have hx1 := hxo.1
         have hx2 := hxo.2.1
         have hx3 := hxo.2.2
         rcases pl_cases hp hx with hi0 | ⟨y, hi0, hw0, hgy, hyx, hxy⟩
       case' neg =>
         have hQ := True.intro
         have ht := lt_false (f := TPlace.en) hlt
         have e : i = l.length := by omega
         subst e
         try rw [List.take_length])
    | with_reducible refine ifP ?_
    | with_reducible refine ifN ?_) <;> (try dsimp only))
  all_goals first
    | (have _ := hP; (refine ⟨i + 1, _, hlt, by omega, ?_, rfl, ?_, ?_⟩; (focus ((repeat' (first | exact Wk.nil | refine Wk.any ?_ | (with_reducible refine Wk.same ?_) | refine Wk.of ?_ ?_)) <;> (first | rfl | (rw [hn]; done)))); (focus (exact fitsA)); (focus (exact FitsM.nil _))))
    | (have _ := hQ; exact Fin.one rfl (RV.tmp (by rfl)) (clo_c _) ⟨by first | rfl | (rw [List.length_map]; simp; omega), rfl⟩)

theorem arePl_i (l : List TPlace) (hp : PlOk l) : VCalls Tryz.prog 288 [.ro 4 (l.map TPlace.en)] (fun r M => r = B true ∧ M = []) := by
  refine VB Tryz.func288 46 (fun E hE => ?_)
  have hclo : Clo (.ro 4 (l.map TPlace.en)) := clo_list TPlace.clo_en
  have hpl := hp.len
  repeat' ((first
    | (refine iAL ?_; first | refine AL.any ?_ | refine AL.U ?_ | refine AL.F ?_ | refine AL.T ?_ | refine AL.W ?_ | refine AL.nil ?_)
    | ((with_reducible show DL ..); first | refine DL.any ?_ | refine DL.any (h := POp.k Tryz.func145 (hc := inr_v _ _ _)) ?_ | refine DL.U ?_ | refine DL.F ?_ | refine DL.T ?_ | refine DL.T (h := POp.k Tryz.func145 (hc := inr_v _ _ _)) ?_ | refine DL.T (h := POp.k Tryz.func180 (hc := by first | exact isp_v_t _ _ (by assumption) | exact isp_v_f _ _ (by assumption) | exact isp_v _ _)) ?_ | refine DL.W ?_ | refine DL.W (h := fun h => by (try rw [h]); exact POp.k Tryz.func145 (hc := inr_v _ _ _)) ?_ | refine DL.W (h := fun h => by (try rw [h]); exact POp.k Tryz.func180 (hc := by first | exact isp_v_t _ _ (by assumption) | exact isp_v_f _ _ (by assumption) | exact isp_v _ _)) ?_ | refine DL.nil ?_)
    | (refine iAW ?_; first | (refine AW.c0 ?_; constructor) | refine AW.dr (id := 6) 28 ?_ | refine AW.cT ?_ | refine AW.cF ?_ | (refine AW.c2 ?_ ?_ <;> (intro h; try simp only [bT, bF] at h)))
    | (refine AW.loopD hE (fun i : Nat => [.ro 4 (l.map TPlace.en), .any, .any, .any, .any, .any, .any, .any, .ro 4 (l.map TPlace.en), I ((l.map TPlace.en).length : Int), I (i : Int), .any, .any, .any, .any, .any, .any, .any, .any, .any, .any, .any, .any, .any, .any, .any, .any, .any, .any, .any, .any, .any, .any, .any, .any, .any, .any, .any, .any, .any, .any, .any, .any, .any, .any, .any, .any]) (fun i => []) (fun i => l.length - i) (fun i => i ≤ l.length) 0 (by simp) ?_ (by first | rfl | (simp [fil_zero]; done)) ?_
       (focus ((repeat' (first | exact Wk.nil | refine Wk.any ?_ | (with_reducible refine Wk.same ?_) | refine Wk.of ?_ ?_)) <;> first | rfl | (rfl)))
       intro i hi
       by_cases hlt : i < l.length
       case' pos =>
         have hP := True.intro
         obtain ⟨x, hx⟩ : ∃ x, l[i]? = some x := ⟨_, List.getElem?_eq_getElem hlt⟩
         have hg := map_get (f := TPlace.en) hx
         have ht := lt_true (f := TPlace.en) hlt
         have hn := next_ix hlt (by omega)
         have hxo := hp.ok x (List.mem_of_getElem? hx)
         have hx1 := hxo.1
         have hx2 := hxo.2.1
         have hx3 := hxo.2.2
         rcases pl_cases hp hx with hi0 | ⟨y, hi0, hw0, hgy, hyx, hxy⟩
       case' neg =>
         have hQ := True.intro
         have ht := lt_false (f := TPlace.en) hlt
         have e : i = l.length := by omega
         subst e
         try rw [List.take_length])
    | with_reducible refine ifP ?_
    | with_reducible refine ifN ?_) <;> (try dsimp only))
  all_goals first
    | (have _ := hP; (refine ⟨i + 1, _, hlt, by omega, ?_, rfl, ?_, ?_⟩; (focus ((repeat' (first | exact Wk.nil | refine Wk.any ?_ | (with_reducible refine Wk.same ?_) | refine Wk.of ?_ ?_)) <;> (first | rfl | (rw [hn]; done)))); (focus (exact fitsA)); (focus (exact FitsM.nil _))))
    | (have _ := hQ; exact Fin.one rfl (RV.tmp (by rfl)) (clo_c _) ⟨by first | rfl | (rw [List.length_map]; simp; omega), rfl⟩)
    | (exact absurd (by assumption : decide (((l.map TPlace.en).length : Int) > 16) = true) (by rw [List.length_map]; simp; omega))

theorem isSrcT_s (l : List TFeature) (hl : l.length ≤ 1048576) (hp : ∀ x ∈ l, x.gd) (hS : isSource l = true) : VCalls Tryz.prog 78 [.ro 5 (l.map TFeature.en)] (fun r M => r = B true ∧ M = []) := hS ▸ isSource_s l hl hp
theorem isSrcT_i (l : List TFeature) (hl : l.length ≤ 1048576) (hp : ∀ x ∈ l, x.gd) (hS : isSource l = true) : VCalls Tryz.prog 80 [.ro 5 (l.map TFeature.en)] (fun r M => r = B true ∧ M = []) := hS ▸ isSource_i l hl hp
theorem pls_s (l : List TFeature) (hS : isSource l = true) (hg0 : ∀ x ∈ l, x.gd) : VCalls Tryz.prog 201 [.ro 5 (l.map TFeature.en)] (fun r M => r = .ro 4 ((plsOf l).map TPlace.en) ∧ M = []) := by
  refine VB Tryz.func201 43 (fun E hE => ?_)
  have hclo : Clo (.ro 5 (l.map TFeature.en)) := clo_list TFeature.clo_en
  have hsl := src_len hS
  repeat' ((first
    | (refine iAL ?_; first | refine AL.any ?_ | refine AL.U ?_ | refine AL.F ?_ | refine AL.T ?_ | refine AL.T (h := POp.k Tryz.func78 (hc := isSrcT_s l (by omega) hg0 hS)) ?_ | refine AL.W ?_ | refine AL.W (h := fun h => by (try rw [h]); exact POp.k Tryz.func78 (hc := isSrcT_s l (by omega) hg0 hS)) ?_ | refine AL.nil ?_)
    | ((with_reducible show DL ..); first | refine DL.any ?_ | refine DL.nil ?_)
    | ((with_reducible show DLM ..); first | refine DLM.any ?_ | refine DLM.mk ?_ | refine DLM.nil ?_)
    | (refine iAW ?_; first | (refine AW.freezeRet (t := 2) (id := 0) rfl rfl rfl rfl (clo_rows TPlace.clo_en) ?_; (try simp only [List.take_length]); try dsimp only [dput, List.set, cond_true, cond_false, Nat.zero_add, Nat.add_zero, Nat.reduceAdd, splice, List.take, List.drop, List.length, List.nil_append, List.cons_append, List.append, TPoint.en, TSegment.en, TBox.en, TFeature.en, TMeet.en, TPlace.en, TCover.en, TLabel.en, TPiece.en, TLevel.en, TChart.en, TReason.en, TEdit.en, TEntry.en, TEdition.en, TListing.en, TAtlas.en, TEvent.en, TWindow.en]) | (refine AW.c0 ?_; constructor) | refine AW.drM (id := 6) 20 19 ?_ | refine AW.cT ?_ | refine AW.cF ?_ | (refine AW.c2 ?_ ?_ <;> (intro h; try simp only [bT, bF] at h)))
    | (refine AW.loopD hE (fun i : Nat => [.ro 5 (l.map TFeature.en), .any, .any, .own 0 (plsTo l i).length, I (i : Int), .any, .any, .any, .any, .any, .any, .any, .any, .any, .any, .any, .any, .any, .any, .any, .any, .any, .any, .any, .any, .any, .any, .any, .any, .any, .any, .any, .any, .any, .any, .any, .any, .any, .any, .any, .any, .any, .any, .any]) (fun i => [some ⟨187, 4, (plsTo l i).length, false, (plsTo l i).map TPlace.en⟩]) (fun i => l.length - i) (fun i => i ≤ l.length) 0 (by simp) ?_ (by first | rfl | (simp [fil_zero]; done)) ?_
       (focus ((repeat' (first | exact Wk.nil | refine Wk.any ?_ | (with_reducible refine Wk.same ?_) | refine Wk.of ?_ ?_)) <;> first | rfl | (rfl)))
       intro i hi
       by_cases hlt : i < l.length
       case' pos =>
         have hP := True.intro
         obtain ⟨x, hx⟩ : ∃ x, l[i]? = some x := ⟨_, List.getElem?_eq_getElem hlt⟩
         have hg := map_get (f := TFeature.en) hx
         have ht := lt_true (f := TFeature.en) hlt
         have hn := next_ix hlt (by omega)
         have hgx := hg0 x (List.mem_of_getElem? hx)
         have hfx := src_feat hS hx
         have hcle : Clo (.agg x.en) := Clo.agg x.clo_en
         have hclP : Clo (.ro 2 (x.points.map TPoint.en)) := clo_list TPoint.clo_en
         have hln := plsTo_len l i
         rcases Bool.eq_false_or_eq_true (x.kind == 1) with hk | hk
         case' inl =>
           obtain ⟨hm, hm2⟩ := plsTo_y hx hk
           obtain ⟨hp0, _⟩ := pl_point hfx hk
         case' inr => obtain ⟨hm, hm2⟩ := plsTo_n hx hk
       case' neg =>
         have hQ := True.intro
         have ht := lt_false (f := TFeature.en) hlt
         have e : i = l.length := by omega
         subst e
         try rw [List.take_length]
         rw [plsTo_all])
    | with_reducible refine ifP ?_
    | with_reducible refine ifN ?_) <;> (try dsimp only))
  all_goals first
    | (have _ := hP; (refine ⟨i + 1, _, hlt, by omega, ?_, by rw [hm, hm2] <;> rfl, ?_, ?_⟩; (focus ((repeat' (first | exact Wk.nil | refine Wk.any ?_ | (with_reducible refine Wk.same ?_) | refine Wk.of ?_ ?_)) <;> (first | rfl | (rw [hn]; done) | (rw [hm2]; done)))); (focus (exact fitsA)); (focus (exact fits_row (clo_rows TPlace.clo_en)))))
    | (have _ := hQ; exact Fin.one rfl (RV.tmp (by rfl)) (clo_list TPlace.clo_en) ⟨rfl, rfl⟩)

theorem pls_i (l : List TFeature) (hS : isSource l = true) (hg0 : ∀ x ∈ l, x.gd) : VCalls Tryz.prog 158 [.ro 5 (l.map TFeature.en)] (fun r M => r = .ro 4 ((plsOf l).map TPlace.en) ∧ M = []) := by
  refine VB Tryz.func158 33 (fun E hE => ?_)
  have hclo : Clo (.ro 5 (l.map TFeature.en)) := clo_list TFeature.clo_en
  have hsl := src_len hS
  repeat' ((first
    | (refine iAL ?_; first | refine AL.any ?_ | refine AL.any (h := POp.k Tryz.func80 (hc := isSrcT_i l (by omega) hg0 hS)) ?_ | refine AL.nil ?_)
    | ((with_reducible show DL ..); first | refine DL.any ?_ | refine DL.nil ?_)
    | ((with_reducible show DLM ..); first | refine DLM.any ?_ | refine DLM.mk ?_ | refine DLM.nil ?_)
    | (refine iAW ?_; first | (refine AW.freezeRet (t := 2) (id := 0) rfl rfl rfl rfl (clo_rows TPlace.clo_en) ?_; (try simp only [List.take_length]); try dsimp only [dput, List.set, cond_true, cond_false, Nat.zero_add, Nat.add_zero, Nat.reduceAdd, splice, List.take, List.drop, List.length, List.nil_append, List.cons_append, List.append, TPoint.en, TSegment.en, TBox.en, TFeature.en, TMeet.en, TPlace.en, TCover.en, TLabel.en, TPiece.en, TLevel.en, TChart.en, TReason.en, TEdit.en, TEntry.en, TEdition.en, TListing.en, TAtlas.en, TEvent.en, TWindow.en]) | (refine AW.c0 ?_; constructor) | refine AW.drM (id := 8) 11 10 ?_ | refine AW.cT ?_ | refine AW.cF ?_ | (refine AW.c2 ?_ ?_ <;> (intro h; try simp only [bT, bF] at h)))
    | (refine AW.loopD hE (fun i : Nat => [.any, .any, .any, .own 0 (plsTo l i).length, .any, .any, .any, .any, .any, .any, .any, .ro 5 (l.map TFeature.en), I ((l.map TFeature.en).length : Int), I (i : Int), .any, .any, .any, .any, .any, .any, .any, .any, .any, .any, .any, .any, .any, .any, .any, .any, .any, .any, .any, .any]) (fun i => [some ⟨187, 4, (plsTo l i).length, false, (plsTo l i).map TPlace.en⟩]) (fun i => l.length - i) (fun i => i ≤ l.length) 0 (by simp) ?_ (by first | rfl | (simp [fil_zero]; done)) ?_
       (focus ((repeat' (first | exact Wk.nil | refine Wk.any ?_ | (with_reducible refine Wk.same ?_) | refine Wk.of ?_ ?_)) <;> first | rfl | (rfl)))
       intro i hi
       by_cases hlt : i < l.length
       case' pos =>
         have hP := True.intro
         obtain ⟨x, hx⟩ : ∃ x, l[i]? = some x := ⟨_, List.getElem?_eq_getElem hlt⟩
         have hg := map_get (f := TFeature.en) hx
         have ht := lt_true (f := TFeature.en) hlt
         have hn := next_ix hlt (by omega)
         have hgx := hg0 x (List.mem_of_getElem? hx)
         have hfx := src_feat hS hx
         have hcle : Clo (.agg x.en) := Clo.agg x.clo_en
         have hclP : Clo (.ro 2 (x.points.map TPoint.en)) := clo_list TPoint.clo_en
         have hln := plsTo_len l i
         rcases Bool.eq_false_or_eq_true (x.kind == 1) with hk | hk
         case' inl =>
           obtain ⟨hm, hm2⟩ := plsTo_y hx hk
           obtain ⟨hp0, _⟩ := pl_point hfx hk
         case' inr => obtain ⟨hm, hm2⟩ := plsTo_n hx hk
       case' neg =>
         have hQ := True.intro
         have ht := lt_false (f := TFeature.en) hlt
         have e : i = l.length := by omega
         subst e
         try rw [List.take_length]
         rw [plsTo_all])
    | with_reducible refine ifP ?_
    | with_reducible refine ifN ?_) <;> (try dsimp only))
  all_goals first
    | (have _ := hP; (refine ⟨i + 1, _, hlt, by omega, ?_, by rw [hm, hm2] <;> rfl, ?_, ?_⟩; (focus ((repeat' (first | exact Wk.nil | refine Wk.any ?_ | (with_reducible refine Wk.same ?_) | refine Wk.of ?_ ?_)) <;> (first | rfl | (rw [hn]; done) | (rw [hm2]; done)))); (focus (exact fitsA)); (focus (exact fits_row (clo_rows TPlace.clo_en)))))
    | (have _ := hQ; exact Fin.one rfl (RV.tmp (by rfl)) (clo_list TPlace.clo_en) ⟨rfl, rfl⟩)

theorem pr_bd {a b : Int} (ha : -200 ≤ a) (ha2 : a ≤ 200) (hb : -200 ≤ b) (hb2 : b ≤ 200) : -40000 ≤ a * b ∧ a * b ≤ 40000 := by
  have h : (a * b).natAbs = a.natAbs * b.natAbs := Int.natAbs_mul a b
  have h2 : a.natAbs * b.natAbs ≤ 200 * 200 := Nat.mul_le_mul (by omega) (by omega)
  omega
theorem tw_step {n : Int} {s : TSegment} (hn : -8000000 ≤ n) (hn2 : n ≤ 8000000) (ha : isp s.a.x s.a.y = true) (hb : isp s.b.x s.b.y = true) :
    twS n s = n + (s.a.x * s.b.y - s.a.y * s.b.x) ∧ -80000 ≤ s.a.x * s.b.y - s.a.y * s.b.x ∧ s.a.x * s.b.y - s.a.y * s.b.x ≤ 80000 := by
  obtain ⟨a1, a2, a3, a4⟩ := isp_bd ha
  obtain ⟨b1, b2, b3, b4⟩ := isp_bd hb
  have h1 := pr_bd (a := s.a.x) (b := s.b.y) (by omega) (by omega) (by omega) (by omega)
  have h2 := pr_bd (a := s.a.y) (b := s.b.x) (by omega) (by omega) (by omega) (by omega)
  refine ⟨?_, by omega, by omega⟩
  show IntKind.i64.wrap (IntKind.i64.wrap (n + IntKind.i64.wrap (s.a.x * s.b.y)) - IntKind.i64.wrap (s.a.y * s.b.x)) = _
  rw [w64 (n := s.a.x * s.b.y) (by omega) (by omega), w64 (n := s.a.y * s.b.x) (by omega) (by omega), w64 (n := n + s.a.x * s.b.y) (by omega) (by omega), w64 (by omega) (by omega)]
  omega
theorem tw_sum {l : List TPoint} (h : isRing l = true) : ∀ i, i ≤ l.length → accF twS (arnd l) i = SI (fun i => (ptA l i).x * (ptA l (nx l.length i)).y - (ptA l i).y * (ptA l (nx l.length i)).x) i ∧ -80000 * (i : Int) ≤ accF twS (arnd l) i ∧ accF twS (arnd l) i ≤ 80000 * (i : Int)
  | 0, _ => ⟨rfl, by simp [accF], by simp [accF]⟩
  | i + 1, hi => by
    obtain ⟨e1, e2, e3⟩ := tw_sum h i (by omega)
    obtain ⟨r1, r2, _⟩ := ring_edges h
    have hlen : l.length ≤ 10 := by
      have h3 := h
      simp only [isRing, Bool.and_eq_true] at h3
      have h4 := h3.1
      unfold inr at h4
      simp at h4
      omega
    obtain ⟨a, b, ha, hb, hs⟩ := arnd_get (l := l) (i := i) (by omega)
    have hsa : sAt l i = ⟨a, b⟩ := sAt_of hs
    rw [sAt_pt (by omega)] at hsa
    have ea : ptA l i = a := congrArg TSegment.a hsa
    have eb : ptA l (nx l.length i) = b := congrArg TSegment.b hsa
    have pa := (r2 i (by omega)).1
    have pb := (r2 (nx l.length i) (Nat.mod_lt _ (by omega))).1
    rw [ea] at pa
    rw [eb] at pb
    obtain ⟨t1, t2, t3⟩ := tw_step (n := accF twS (arnd l) i) (s := ⟨a, b⟩) (by omega) (by omega) pa pb
    rw [accF_succ hs, t1]
    dsimp only at t2 t3 ⊢
    refine ⟨?_, by omega, by omega⟩
    rw [e1]
    show _ = SI _ i + _
    dsimp only
    rw [ea, eb]
theorem twice_ne {l : List TPoint} (h : isRing l = true) : twice l ≠ 0 := by
  have h1 := (tw_sum h l.length (Nat.le_refl _)).1
  have h2 := ring_area h
  unfold area2 at h2
  rw [← h1] at h2
  unfold twice
  rw [ringSegs, if_pos h]
  have e : (arnd l).length = l.length := arnd_len l
  rw [← e, accF_all] at h2
  exact h2
def drp (l : List TPoint) (i : Nat) : List TPoint := l.take i ++ l.drop (i + 1)
theorem drp_len {l : List TPoint} {i : Nat} (h : i < l.length) : (drp l i).length + 1 = l.length := by unfold drp; simp; omega
theorem drp_map (l : List TPoint) (i : Nat) : (l.take i).map TPoint.en ++ (l.drop (i + 1)).map TPoint.en = (drp l i).map TPoint.en := by rw [drp, List.map_append]
abbrev inP (l : List TPoint) (i : Nat) : Bool := inr (i : Int) 1 (IntKind.i64.wrap (((l.map TPoint.en).length : Int) - 2))
abbrev inC (l : List TPoint) (i : Nat) : Bool := inr (i : Int) 0 (IntKind.i64.wrap (((l.map TPoint.en).length : Int) - 1))
theorem inP_t {l : List TPoint} {i : Nat} (hl : l.length ≤ 1048576) (h : inP l i = true) : 1 ≤ i ∧ i + 2 ≤ l.length := by
  unfold inP inr at h
  rw [List.length_map, w64 (by omega) (by omega)] at h
  simp at h
  omega
theorem inC_t {l : List TPoint} {i : Nat} (hl : l.length ≤ 1048576) (h : inC l i = true) : i < l.length := by
  unfold inC inr at h
  rw [List.length_map, w64 (by omega) (by omega)] at h
  simp at h
  omega
def sameT (a b : List TPoint) : Bool := (decide (twice a > 0) && decide (twice b > 0)) || (decide (twice a < 0) && decide (twice b < 0))
def dpOk (l : List TPoint) (i : Nat) : Bool := isLine l && inP l i && isLine (drp l i)
def dpL (l : List TPoint) (i : Nat) : List TPoint := if dpOk l i = true then drp l i else l
def dcOk (l : List TPoint) (i : Nat) : Bool := isRing l && inC l i && isRing (drp l i) && sameT l (drp l i)
def dcL (l : List TPoint) (i : Nat) : List TPoint := if dcOk l i = true then drp l i else l
theorem dp_cases (l : List TPoint) (i : Nat) : (isLine l = false ∧ dpOk l i = false ∧ dpL l i = l) ∨ (isLine l = true ∧ inP l i = false ∧ dpOk l i = false ∧ dpL l i = l) ∨
    (isLine l = true ∧ inP l i = true ∧ isLine (drp l i) = false ∧ dpOk l i = false ∧ dpL l i = l) ∨ (isLine l = true ∧ inP l i = true ∧ isLine (drp l i) = true ∧ dpOk l i = true ∧ dpL l i = drp l i) := by
  unfold dpL dpOk
  cases isLine l <;> cases inP l i <;> cases isLine (drp l i) <;> simp
theorem dc_cases (l : List TPoint) (i : Nat) : (isRing l = false ∧ dcOk l i = false ∧ dcL l i = l) ∨ (isRing l = true ∧ inC l i = false ∧ dcOk l i = false ∧ dcL l i = l) ∨
    (isRing l = true ∧ inC l i = true ∧ isRing (drp l i) = false ∧ dcOk l i = false ∧ dcL l i = l) ∨ (isRing l = true ∧ inC l i = true ∧ isRing (drp l i) = true ∧ sameT l (drp l i) = false ∧ dcOk l i = false ∧ dcL l i = l) ∨
    (isRing l = true ∧ inC l i = true ∧ isRing (drp l i) = true ∧ sameT l (drp l i) = true ∧ dcOk l i = true ∧ dcL l i = drp l i) := by
  unfold dcL dcOk
  cases isRing l <;> cases inC l i <;> cases isRing (drp l i) <;> cases sameT l (drp l i) <;> simp
def triA (a b p : TPoint) : Int := wmax (crW a b p) (IntKind.i64.wrap (-(crW a b p)))
theorem triA_ge {a b p : TPoint} (ha : isp a.x a.y = true) (hb : isp b.x b.y = true) (hp : isp p.x p.y = true) : 0 ≤ triA a b p := by
  unfold triA
  rw [crW_crs ha hb hp]
  obtain ⟨a1, a2, a3, a4⟩ := isp_bd ha
  obtain ⟨b1, b2, b3, b4⟩ := isp_bd hb
  obtain ⟨p1, p2, p3, p4⟩ := isp_bd hp
  have h1 := pr_bd (a := b.x - a.x) (b := p.y - a.y) (by omega) (by omega) (by omega) (by omega)
  have h2 := pr_bd (a := b.y - a.y) (b := p.x - a.x) (by omega) (by omega) (by omega) (by omega)
  have e : crs a b p = (b.x - a.x) * (p.y - a.y) - (b.y - a.y) * (p.x - a.x) := rfl
  have hb1 : -80000 ≤ crs a b p ∧ crs a b p ≤ 80000 := by rw [e]; omega
  rw [w64 (n := -crs a b p) (by omega) (by omega)]
  unfold wmax
  split <;> omega
def ptg (l : List TPoint) (j : Nat) : TPoint := l.getD j ⟨0, 0⟩
theorem ptg_get {l : List TPoint} {j : Nat} (h : j < l.length) : l[j]? = some (ptg l j) := by
  unfold ptg
  rw [List.getD_eq_getElem?_getD, List.getElem?_eq_getElem h]
  rfl
def crnA (l : List TPoint) (i : Nat) : Int := if (isLine l && inP l i) = true then triA (ptg l (i - 1)) (ptg l i) (ptg l (i + 1)) else -1
def crnS (l : List TPoint) (i : Nat) : Int := if (isRing l && inC l i) = true then triA (ptg l ((i + l.length - 1) % l.length)) (ptg l i) (ptg l ((i + 1) % l.length)) else -1
theorem corner_line {l : List TPoint} {i : Nat} (hl : l.length ≤ 1048576) (h1 : isLine l = true) (h2 : inP l i = true) : ∃ a b p : TPoint, crnA l i = triA a b p ∧ 0 ≤ IntKind.i64.wrap ((i : Int) - 1) ∧ (l.map TPoint.en)[(IntKind.i64.wrap ((i : Int) - 1)).toNat]? = some a.en ∧ (l.map TPoint.en)[((i : Int)).toNat]? = some b.en ∧ 0 ≤ IntKind.i64.wrap ((i : Int) + 1) ∧ (l.map TPoint.en)[(IntKind.i64.wrap ((i : Int) + 1)).toNat]? = some p.en := by
  obtain ⟨g1, g2⟩ := inP_t hl h2
  have e1 : IntKind.i64.wrap ((i : Int) - 1) = ((i - 1 : Nat) : Int) := by rw [w64 (by omega) (by omega)]; omega
  have e2 : IntKind.i64.wrap ((i : Int) + 1) = ((i + 1 : Nat) : Int) := by rw [w64 (by omega) (by omega)]; omega
  refine ⟨ptg l (i - 1), ptg l i, ptg l (i + 1), by rw [crnA, if_pos (by rw [h1, h2]; rfl)], by omega, ?_, ?_, by omega, ?_⟩
  · rw [e1, Int.toNat_natCast, List.getElem?_map, ptg_get (by omega)]; rfl
  · rw [Int.toNat_natCast, List.getElem?_map, ptg_get (by omega)]; rfl
  · rw [e2, Int.toNat_natCast, List.getElem?_map, ptg_get (by omega)]; rfl
theorem crnA_n {l : List TPoint} {i : Nat} (h : isLine l = false ∨ inP l i = false) : crnA l i = -1 := by
  rw [crnA, if_neg]
  rcases h with h | h <;> simp [h]
theorem crnS_n {l : List TPoint} {i : Nat} (h : isRing l = false ∨ inC l i = false) : crnS l i = -1 := by
  rw [crnS, if_neg]
  rcases h with h | h <;> simp [h]
theorem corner_ring {l : List TPoint} {i : Nat} (hl : l.length ≤ 1048576) (h1 : isRing l = true) (h2 : inC l i = true) : ∃ a b p : TPoint, crnS l i = triA a b p ∧ ((l.map TPoint.en).length : Int) ≠ 0 ∧
    0 ≤ (IntKind.i64.wrap (IntKind.i64.wrap ((i : Int) + ((l.map TPoint.en).length : Int)) - 1)).tmod ((l.map TPoint.en).length : Int) ∧ (l.map TPoint.en)[((IntKind.i64.wrap (IntKind.i64.wrap ((i : Int) + ((l.map TPoint.en).length : Int)) - 1)).tmod ((l.map TPoint.en).length : Int)).toNat]? = some a.en ∧
    (l.map TPoint.en)[((i : Int)).toNat]? = some b.en ∧ 0 ≤ (IntKind.i64.wrap ((i : Int) + 1)).tmod ((l.map TPoint.en).length : Int) ∧ (l.map TPoint.en)[((IntKind.i64.wrap ((i : Int) + 1)).tmod ((l.map TPoint.en).length : Int)).toNat]? = some p.en := by
  have g := inC_t hl h2
  have e1 : (IntKind.i64.wrap (IntKind.i64.wrap ((i : Int) + ((l.map TPoint.en).length : Int)) - 1)).tmod ((l.map TPoint.en).length : Int) = (((i + l.length - 1) % l.length : Nat) : Int) := by
    rw [List.length_map, w64 (n := (i : Int) + (l.length : Int)) (by omega) (by omega), w64 (by omega) (by omega), show (i : Int) + (l.length : Int) - 1 = ((i + l.length - 1 : Nat) : Int) by omega]
    exact (Int.ofNat_tmod _ _).symm
  have e2 := arnd_ix g hl
  refine ⟨ptg l ((i + l.length - 1) % l.length), ptg l i, ptg l ((i + 1) % l.length), by rw [crnS, if_pos (by rw [h1, h2]; rfl)], by rw [List.length_map]; omega, by rw [e1]; omega, ?_, ?_, by rw [e2]; omega, ?_⟩
  · rw [e1, Int.toNat_natCast, List.getElem?_map, ptg_get (Nat.mod_lt _ (by omega))]; rfl
  · rw [Int.toNat_natCast, List.getElem?_map, ptg_get g]; rfl
  · rw [e2, Int.toNat_natCast, List.getElem?_map, ptg_get (Nat.mod_lt _ (by omega))]; rfl
theorem drp_cut {l : List TPoint} {i : Nat} (h : i < l.length) (hl : l.length ≤ 1048576) :
    (i : Int) ≤ ((l.map TPoint.en).length : Int) ∧ (l.map TPoint.en).take ((i : Int)).toNat = (l.take i).map TPoint.en ∧ 0 ≤ IntKind.i64.wrap ((i : Int) + 1) ∧ IntKind.i64.wrap ((i : Int) + 1) ≤ ((l.map TPoint.en).length : Int) ∧ (l.map TPoint.en).drop (IntKind.i64.wrap ((i : Int) + 1)).toNat = (l.drop (i + 1)).map TPoint.en := by
  have e2 : IntKind.i64.wrap ((i : Int) + 1) = ((i + 1 : Nat) : Int) := by rw [w64 (by omega) (by omega)]; omega
  rw [e2, Int.toNat_natCast, Int.toNat_natCast, List.length_map]
  exact ⟨by omega, by rw [List.map_take], by omega, by omega, by rw [List.map_drop]⟩
theorem turn_cmp {a b : List TPoint} (ha : isRing a = true) (hb : isRing b = true) : (cmpI (twice b) 0 != cmpI (twice a) 0) = !sameT a b := by
  have h1 := twice_ne ha
  have h2 := twice_ne hb
  unfold cmpI sameT
  rcases Int.lt_trichotomy (twice a) 0 with h | h | h
  · rcases Int.lt_trichotomy (twice b) 0 with k | k | k
    · rw [if_pos k, if_pos h]; simp [h, k]
    · exact absurd k h2
    · rw [if_neg (by omega), if_pos (by omega), if_pos h]
      have e1 : decide (twice a > 0) = false := by simp; omega
      have e2 : decide (twice b < 0) = false := by simp; omega
      rw [e1, e2]; simp
  · exact absurd h h1
  · rcases Int.lt_trichotomy (twice b) 0 with k | k | k
    · rw [if_pos k, if_neg (by omega), if_pos (by omega)]
      have e1 : decide (twice b > 0) = false := by simp; omega
      have e2 : decide (twice a < 0) = false := by simp; omega
      rw [e1, e2]; simp
    · exact absurd k h2
    · rw [if_neg (by omega), if_pos (by omega), if_neg (by omega), if_pos (by omega)]
      simp [h, k]

abbrev abv (a b : TPlace) : Prop := above a b = true
theorem above_iff (a b : TPlace) : above a b = true ↔ a.rank > b.rank ∨ (a.rank = b.rank ∧ a.id < b.id) := by unfold above; simp
theorem above_tr {a b c : TPlace} (h : abv a b) (k : abv b c) : abv a c := by
  have h := (above_iff _ _).1 h
  have k := (above_iff _ _).1 k
  exact (above_iff _ _).2 (by omega)
theorem above_tri {a b : TPlace} (h : a.id ≠ b.id) (k : above a b = false) : abv b a := by
  have k : ¬ abv a b := fun e => by rw [show above a b = true from e] at k; cases k
  rw [abv, above_iff] at k
  exact (above_iff _ _).2 (by omega)
theorem above_anti {a b : TPlace} (h : abv a b) (k : abv b a) : False := by
  have h := (above_iff _ _).1 h
  have k := (above_iff _ _).1 k
  omega
def insA (l : List TPlace) (x : TPlace) : List TPlace := insR (fun y => above x y) l x
theorem insA_perm (l : List TPlace) (x : TPlace) : (insA l x).Perm (x :: l) := by
  unfold insA insR
  have h := List.perm_middle (a := x) (l₁ := l.take (posR (fun y => above x y) l)) (l₂ := l.drop (posR (fun y => above x y) l))
  rw [List.take_append_drop] at h
  simpa using h
theorem insA_pw {l : List TPlace} {x : TPlace} (hl : l.Pairwise abv) (hx : ∀ y ∈ l, y.id ≠ x.id) : (insA l x).Pairwise abv := by
  have hk := posR_le (fun y => above x y) l
  have hi : ∀ y ∈ l.drop (posR (fun y => above x y) l), abv x y := fun y hy => by
    obtain ⟨q, hq⟩ := List.getElem?_of_mem hy
    rw [List.getElem?_drop] at hq
    exact posR_ge (p := fun y => above x y) (Nat.le_add_right _ _) hq
  have lo : ∀ y ∈ l.take (posR (fun y => above x y) l), abv y x := fun y hy => by
    obtain ⟨q, hq⟩ := List.getElem?_of_mem hy
    have hql : q < posR (fun y => above x y) l := by
      have := (List.getElem?_eq_some_iff.1 hq).1
      rw [List.length_take] at this
      omega
    rw [List.getElem?_take_of_lt hql] at hq
    have hz := List.getElem?_eq_getElem (l := l) (i := posR (fun y => above x y) l - 1) (by omega)
    have hnz := posR_lt (p := fun y => above x y) (by omega) hz
    have hzx := above_tri (fun e => hx _ (List.getElem_mem _) e.symm) hnz
    rcases Nat.lt_or_ge q (posR (fun y => above x y) l - 1) with h2 | h2
    · have h3 := List.pairwise_iff_getElem.1 hl q (posR (fun y => above x y) l - 1) (by omega) (by omega) h2
      rw [List.getElem?_eq_getElem (by omega)] at hq
      obtain rfl := Option.some.inj hq
      exact above_tr h3 hzx
    · have e : q = posR (fun y => above x y) l - 1 := by omega
      rw [e, hz] at hq
      obtain rfl := Option.some.inj hq
      exact hzx
  have hs : (l.take (posR (fun y => above x y) l) ++ l.drop (posR (fun y => above x y) l)).Pairwise abv := by rw [List.take_append_drop]; exact hl
  obtain ⟨s1, s2, s3⟩ := List.pairwise_append.1 hs
  unfold insA insR
  refine List.pairwise_append.2 ⟨List.pairwise_append.2 ⟨s1, List.pairwise_singleton _ _, fun a ha b hb => ?_⟩, s2, fun a ha b hb => ?_⟩
  · rw [List.mem_singleton.1 hb]; exact lo a ha
  · rcases List.mem_append.1 ha with h | h
    · exact s3 a h b hb
    · rw [List.mem_singleton.1 h]; exact hi b hb
def srtTo (l : List TPlace) (i : Nat) : List TPlace := (l.take i).foldl insA []
def srtA (l : List TPlace) : List TPlace := l.foldl insA []
theorem srtTo_all (l : List TPlace) : srtTo l l.length = srtA l := by rw [srtTo, List.take_length]; rfl
theorem srtTo_succ {l : List TPlace} {i : Nat} {x : TPlace} (h : l[i]? = some x) : srtTo l (i + 1) = insA (srtTo l i) x := by
  unfold srtTo
  rw [take_succ_of h, List.foldl_append]
  rfl
theorem fold_perm : ∀ (l s : List TPlace), (l.foldl insA s).Perm (l ++ s)
  | [], s => List.Perm.refl _
  | x :: l, s => by
    rw [List.foldl_cons]
    exact (fold_perm l (insA s x)).trans (((insA_perm s x).append_left l).trans (List.perm_middle.trans (List.Perm.refl _)))
theorem srtTo_perm (l : List TPlace) (i : Nat) : (srtTo l i).Perm (l.take i) := by
  have := fold_perm (l.take i) []
  rwa [List.append_nil] at this
theorem srtA_perm (l : List TPlace) : (srtA l).Perm l := by
  have := fold_perm l []
  rwa [List.append_nil] at this
theorem srtTo_len {l : List TPlace} {i : Nat} (h : i ≤ l.length) : (srtTo l i).length = i := by rw [(srtTo_perm l i).length_eq, List.length_take, Nat.min_eq_left h]
theorem srtA_len (l : List TPlace) : (srtA l).length = l.length := (srtA_perm l).length_eq
theorem fold_pw : ∀ (l s : List TPlace), s.Pairwise abv → (l ++ s).Pairwise (fun x y => x.id ≠ y.id) → (l.foldl insA s).Pairwise abv
  | [], s, hs, _ => hs
  | x :: l, s, hs, hd => by
    rw [List.foldl_cons]
    have hd2 : (x :: (l ++ s)).Pairwise (fun x y => x.id ≠ y.id) := hd
    obtain ⟨h1, h2⟩ := List.pairwise_cons.1 hd2
    refine fold_pw l (insA s x) (insA_pw hs fun y hy e => h1 y (List.mem_append_right _ hy) e.symm) ?_
    have hp : (l ++ insA s x).Perm (x :: (l ++ s)) := ((insA_perm s x).append_left l).trans List.perm_middle
    exact (hp.pairwise_iff fun h e => h e.symm).2 hd2
theorem srtA_pw {l : List TPlace} (hd : l.Pairwise fun x y => x.id ≠ y.id) : (srtA l).Pairwise abv := fold_pw l [] List.Pairwise.nil (by rwa [List.append_nil])
theorem srtA_uni {l m : List TPlace} (hd : l.Pairwise fun x y => x.id ≠ y.id) (hm : m.Perm l) (hs : m.Pairwise fun x y => above y x = false) : m = srtA l := by
  have hdm : m.Pairwise fun x y => x.id ≠ y.id := (hm.pairwise_iff fun h e => h e.symm).2 hd
  have h2 : m.Pairwise abv := (hdm.and hs).imp fun ⟨h, k⟩ => above_tri (fun e => h e.symm) k
  exact List.Perm.eq_of_pairwise (fun a b _ _ h k => (above_anti h k).elim) h2 (srtA_pw hd) (hm.trans (srtA_perm l).symm)
theorem PlOk.ne {l : List TPlace} (h : PlOk l) : l.Pairwise fun x y => x.id ≠ y.id := h.asc.imp fun h => by omega
def farOk (far : Int) (x y : TPlace) : Bool := decide (far2 y.at_ x.at_ ≥ far * far)
def keptS (far : Int) (out : List TPlace) (x : TPlace) : List TPlace := if out.all (farOk far x) = true then out ++ [x] else out
def keptTo (s : List TPlace) (far : Int) (j : Nat) : List TPlace := (s.take j).foldl (keptS far) []
def kept (s : List TPlace) (far : Int) : List TPlace := s.foldl (keptS far) []
theorem keptTo_all (s : List TPlace) (far : Int) : keptTo s far s.length = kept s far := by rw [keptTo, List.take_length]; rfl
theorem keptTo_succ {s : List TPlace} {far : Int} {j : Nat} {x : TPlace} (h : s[j]? = some x) : keptTo s far (j + 1) = keptS far (keptTo s far j) x := by
  unfold keptTo
  rw [take_succ_of h, List.foldl_append]
  rfl
theorem keptTo_y {s : List TPlace} {far : Int} {j : Nat} {x : TPlace} (h : s[j]? = some x) (ha : (keptTo s far j).all (farOk far x) = true) : (keptTo s far (j + 1)).map TPlace.en = (keptTo s far j).map TPlace.en ++ [x.en] ∧ (keptTo s far (j + 1)).length = (keptTo s far j).length + 1 := by
  rw [keptTo_succ h, keptS, if_pos ha]
  simp
theorem keptTo_n {s : List TPlace} {far : Int} {j : Nat} {x : TPlace} (h : s[j]? = some x) (ha : (keptTo s far j).all (farOk far x) = false) : (keptTo s far (j + 1)).map TPlace.en = (keptTo s far j).map TPlace.en ∧ (keptTo s far (j + 1)).length = (keptTo s far j).length := by
  rw [keptTo_succ h, keptS, if_neg (by rw [ha]; decide)]
  exact ⟨rfl, rfl⟩
theorem fold_sub (far : Int) : ∀ (l s out : List TPlace), out.Sublist s → (l.foldl (keptS far) out).Sublist (s ++ l)
  | [], s, out, h => by rw [List.append_nil]; exact h
  | x :: l, s, out, h => by
    rw [List.foldl_cons]
    have e : s ++ x :: l = (s ++ [x]) ++ l := by simp
    rw [e]
    refine fold_sub far l (s ++ [x]) _ ?_
    unfold keptS
    split
    · exact h.append (List.Sublist.refl _)
    · exact h.trans (List.sublist_append_left _ _)
theorem keptTo_sub (s : List TPlace) (far : Int) (j : Nat) : (keptTo s far j).Sublist (s.take j) := fold_sub far (s.take j) [] [] (List.Sublist.refl _)
theorem kept_sub (s : List TPlace) (far : Int) : (kept s far).Sublist s := fold_sub far s [] [] (List.Sublist.refl _)
theorem keptTo_len (s : List TPlace) (far : Int) (j : Nat) : (keptTo s far j).length ≤ j := Nat.le_trans (keptTo_sub s far j).length_le (by rw [List.length_take]; omega)
theorem keptTo_mem {s : List TPlace} {far : Int} {j : Nat} {y : TPlace} (h : y ∈ keptTo s far j) : y ∈ s := List.mem_of_mem_take ((keptTo_sub s far j).subset h)
theorem far_sq {far : Int} (h : inr far 0 200 = true) : IntKind.i64.wrap (far * far) = far * far ∧ 0 ≤ far * far := by
  unfold inr at h
  simp at h
  have := sq_bd (d := far) (by omega) (by omega)
  exact ⟨w64 (by omega) (by omega), this.1⟩
theorem all_take_y {α : Type} {l : List α} {p : α → Bool} {k : Nat} {y : α} (hy : l[k]? = some y) (ha : (l.take k).all p = true) : (l.take (k + 1)).all p = p y := by
  rw [take_succ_of hy, List.all_append, ha]
  simp
theorem all_take_n {α : Type} {l : List α} {p : α → Bool} {k : Nat} {y : α} (hy : l[k]? = some y) (ha : (l.take k).all p = false) : (l.take (k + 1)).all p = false := by
  rw [take_succ_of hy, List.all_append, ha]
  rfl
theorem insA_map (l : List TPlace) (x : TPlace) : (insA l x).map TPlace.en = (l.take (posR (fun y => above x y) l)).map TPlace.en ++ [x.en] ++ (l.drop (posR (fun y => above x y) l)).map TPlace.en := by
  unfold insA insR
  rw [List.map_append, List.map_append]
  rfl
def thinI (l : List TPlace) (far : Int) : List Int := putIs [] ((kept (srtA l) far).map (·.id))
theorem thin_nodup {l : List TPlace} (h : PlOk l) (far : Int) : ((kept (srtA l) far).map (·.id)).Pairwise (· ≠ ·) := by
  rw [List.pairwise_map]
  have h1 : (srtA l).Pairwise fun x y => x.id ≠ y.id := ((srtA_perm l).pairwise_iff fun h e => h e.symm).2 h.ne
  exact h1.sublist (kept_sub _ _)
theorem merge_asc {xs : List Int} (h : xs.Pairwise (· ≠ ·)) : (xs.mergeSort fun x y => decide (x ≤ y)).Pairwise (· < ·) := by
  have h1 := List.pairwise_mergeSort (le := fun x y : Int => decide (x ≤ y)) (fun a b c h k => by simp at *; omega) (fun a b => by simp; omega) xs
  have h2 : (xs.mergeSort fun x y => decide (x ≤ y)).Pairwise (· ≠ ·) := ((List.mergeSort_perm xs _).pairwise_iff fun h e => h e.symm).2 h
  exact (h1.and h2).imp fun ⟨a, b⟩ => by simp at a; omega
theorem merge_put {xs : List Int} (h : xs.Pairwise (· ≠ ·)) : (xs.mergeSort fun x y => decide (x ≤ y)) = putIs [] xs := by
  obtain ⟨h1, h2⟩ := putIs_asc (xs := xs) (l := []) List.Pairwise.nil
  exact asc_ext sto_int (merge_asc h) h1 fun y => by rw [(List.mergeSort_perm xs _).mem_iff, h2]; simp
theorem thin_len (l : List TPlace) (far : Int) : (kept (srtA l) far).length ≤ l.length := by
  have := (kept_sub (srtA l) far).length_le
  rw [srtA_len] at this
  exact this
theorem putIs_take1 {xs : List Int} {k : Nat} {y : Int} (h : xs[k]? = some y) : putIs [] (xs.take (k + 1)) = putI (putIs [] (xs.take k)) y := by
  rw [take_succ_of h, putIs_app]
  rfl
theorem putI_len (l : List Int) (x : Int) : (putI l x).length ≤ l.length + 1 := by
  unfold putI
  split
  · omega
  · have := posI_le l x
    simp
    omega
theorem putIs_len : ∀ (xs l : List Int), (putIs l xs).length ≤ l.length + xs.length
  | [], l => by simp [putIs]
  | x :: xs, l => by
    have h1 := putIs_len xs (putI l x)
    have h2 := putI_len l x
    rw [putIs, List.length_cons]
    omega

def sizeA (x : TFeature) (i : Nat) : Int := if (x.kind == 2) = true then crnA x.points i else if (x.kind == 3) = true then crnS x.points i else -1
theorem kd_cases (x : TFeature) : ((x.kind == 2) = true) ∨ ((x.kind == 2) = false ∧ (x.kind == 3) = true) ∨ ((x.kind == 2) = false ∧ (x.kind == 3) = false) := by
  cases x.kind == 2 <;> cases x.kind == 3 <;> simp
def dfK (x : TFeature) (i : Nat) : Bool := if (x.kind == 2) = true then dpOk x.points i else if (x.kind == 3) = true then dcOk x.points i else false
def dfP (x : TFeature) (i : Nat) : List TPoint := if (x.kind == 2) = true then dpL x.points i else if (x.kind == 3) = true then dcL x.points i else x.points
def dfX (x : TFeature) (i : Nat) : TFeature := ⟨x.id, x.kind, x.rank, x.name, dfP x i⟩
def dfOk (x : TFeature) (i : Nat) : Bool := dfK x i && isFeat (dfX x i)
def dfF (x : TFeature) (i : Nat) : TFeature := if dfOk x i = true then dfX x i else x
theorem df_cases (x : TFeature) (i : Nat) :
    ((x.kind == 2) = true ∧ dpOk x.points i = false ∧ dfF x i = x ∧ dfOk x i = false) ∨
    ((x.kind == 2) = true ∧ dpOk x.points i = true ∧ isFeat ⟨x.id, x.kind, x.rank, x.name, dpL x.points i⟩ = false ∧ dfF x i = x ∧ dfOk x i = false) ∨
    ((x.kind == 2) = true ∧ dpOk x.points i = true ∧ isFeat ⟨x.id, x.kind, x.rank, x.name, dpL x.points i⟩ = true ∧ dfF x i = ⟨x.id, x.kind, x.rank, x.name, dpL x.points i⟩ ∧ dfOk x i = true) ∨
    ((x.kind == 2) = false ∧ (x.kind == 3) = true ∧ dcOk x.points i = false ∧ dfF x i = x ∧ dfOk x i = false) ∨
    ((x.kind == 2) = false ∧ (x.kind == 3) = true ∧ dcOk x.points i = true ∧ isFeat ⟨x.id, x.kind, x.rank, x.name, dcL x.points i⟩ = false ∧ dfF x i = x ∧ dfOk x i = false) ∨
    ((x.kind == 2) = false ∧ (x.kind == 3) = true ∧ dcOk x.points i = true ∧ isFeat ⟨x.id, x.kind, x.rank, x.name, dcL x.points i⟩ = true ∧ dfF x i = ⟨x.id, x.kind, x.rank, x.name, dcL x.points i⟩ ∧ dfOk x i = true) ∨
    ((x.kind == 2) = false ∧ (x.kind == 3) = false ∧ dfF x i = x ∧ dfOk x i = false) := by
  unfold dfF dfOk dfX dfK dfP
  rcases kd_cases x with h | ⟨h, k⟩ | ⟨h, k⟩
  · simp only [if_pos h]
    cases h2 : dpOk x.points i <;> cases h3 : isFeat ⟨x.id, x.kind, x.rank, x.name, dpL x.points i⟩ <;> simp [h]
  · simp only [if_neg (show ¬ (x.kind == 2) = true by rw [h]; decide), if_pos k]
    cases h2 : dcOk x.points i <;> cases h3 : isFeat ⟨x.id, x.kind, x.rank, x.name, dcL x.points i⟩ <;> simp [h, k]
  · simp only [if_neg (show ¬ (x.kind == 2) = true by rw [h]; decide), if_neg (show ¬ (x.kind == 3) = true by rw [k]; decide)]
    simp [h, k]
theorem line_pt {l : List TPoint} (h : isLine l = true) {j : Nat} (hj : j < l.length) : isp (ptg l j).x (ptg l j).y = true := by
  unfold isLine at h
  rw [Bool.and_eq_true] at h
  have h2 := h.2
  simp only [ptsOk, List.all_eq_true, List.mem_range] at h2
  have h3 := h2 j hj
  unfold okAt at h3
  rw [ptg_get hj] at h3
  simp only [Bool.and_eq_true] at h3
  exact h3.1
theorem dpL_len (l : List TPoint) (i : Nat) : (dpL l i).length ≤ l.length := by
  unfold dpL drp
  split
  · simp; omega
  · exact Nat.le_refl _
theorem dcL_len (l : List TPoint) (i : Nat) : (dcL l i).length ≤ l.length := by
  unfold dcL drp
  split
  · simp; omega
  · exact Nat.le_refl _
theorem dfF_same (x : TFeature) (i : Nat) : (dfF x i).id = x.id ∧ (dfF x i).kind = x.kind ∧ (dfF x i).rank = x.rank ∧ (dfF x i).name = x.name := by
  unfold dfF
  split
  · exact ⟨rfl, rfl, rfl, rfl⟩
  · exact ⟨rfl, rfl, rfl, rfl⟩
theorem dfF_gd {x : TFeature} (h : x.gd) (i : Nat) : (dfF x i).gd := by
  have h1 := dpL_len x.points i
  have h2 := dcL_len x.points i
  rcases df_cases x i with ⟨_, _, e, _⟩ | ⟨_, _, _, e, _⟩ | ⟨_, _, _, e, _⟩ | ⟨_, _, _, e, _⟩ | ⟨_, _, _, _, e, _⟩ | ⟨_, _, _, _, e, _⟩ | ⟨_, _, e, _⟩ <;> rw [e] <;> first | exact h | exact ⟨Nat.le_trans h1 h.1, h.2⟩ | exact ⟨Nat.le_trans h2 h.1, h.2⟩
theorem dfF_feat {x : TFeature} (h : isFeat x = true) (i : Nat) : isFeat (dfF x i) = true := by
  rcases df_cases x i with ⟨_, _, e, _⟩ | ⟨_, _, _, e, _⟩ | ⟨_, _, hf, e, _⟩ | ⟨_, _, _, e, _⟩ | ⟨_, _, _, _, e, _⟩ | ⟨_, _, _, hf, e, _⟩ | ⟨_, _, e, _⟩ <;> rw [e] <;> first | exact h | exact hf
theorem dfF_less {x : TFeature} {i : Nat} (hl : x.points.length ≤ 1048576) (h : dfOk x i = true) : (dfF x i).points.length + 1 = x.points.length ∧ 0 ≤ sizeA x i := by
  rcases df_cases x i with ⟨_, _, _, e⟩ | ⟨_, _, _, _, e⟩ | ⟨k2, ho, _, e, _⟩ | ⟨_, _, _, _, e⟩ | ⟨_, _, _, _, _, e⟩ | ⟨k2, k3, ho, _, e, _⟩ | ⟨_, _, _, e⟩
  · rw [e] at h; cases h
  · rw [e] at h; cases h
  · rw [e]
    have ho2 := ho
    unfold dpOk at ho2
    simp only [Bool.and_eq_true] at ho2
    obtain ⟨⟨g1, g2⟩, g3⟩ := ho2
    have g4 := inP_t hl g2
    refine ⟨?_, ?_⟩
    · show (dpL x.points i).length + 1 = _
      rw [dpL, if_pos ho]
      exact drp_len (by omega)
    · rw [sizeA, if_pos k2, crnA, if_pos (by rw [g1, g2]; rfl)]
      exact triA_ge (line_pt g1 (by omega)) (line_pt g1 (by omega)) (line_pt g1 (by omega))
  · rw [e] at h; cases h
  · rw [e] at h; cases h
  · rw [e]
    have ho2 := ho
    unfold dcOk at ho2
    simp only [Bool.and_eq_true] at ho2
    obtain ⟨⟨⟨g1, g2⟩, g3⟩, _⟩ := ho2
    have g4 := inC_t hl g2
    refine ⟨?_, ?_⟩
    · show (dcL x.points i).length + 1 = _
      rw [dcL, if_pos ho]
      exact drp_len g4
    · rw [sizeA, if_neg (by rw [k2]; decide), if_pos k3, crnS, if_pos (by rw [g1, g2]; rfl)]
      have hr := (ring_edges g1).2.1
      exact triA_ge (hr _ (Nat.mod_lt _ (by omega))).1 (hr _ g4).1 (hr _ (Nat.mod_lt _ (by omega))).1
  · rw [e] at h; cases h
def meetR (s : TSegment) (t : List TSegment) (n : Int) : Int := t.foldl (fun n y => wmax n (hmI s y)) n
def meetF (a b : TFeature) : Int := (partsOf a).foldl (fun n s => meetR s (partsOf b) n) 0
def canP (x : TFeature) (i : Nat) (o : TFeature) : Bool := decide (meetF (dfF x i) o ≤ meetF x o)
def canS (x : TFeature) (i : Nat) (os : List TFeature) : Bool := dfOk x i && os.all (canP x i)
theorem can_ge {x : TFeature} {i : Nat} {os : List TFeature} (hl : x.points.length ≤ 1048576) (h : canS x i os = true) : dfOk x i = true ∧ 0 ≤ sizeA x i := by
  unfold canS at h
  rw [Bool.and_eq_true] at h
  exact ⟨h.1, (dfF_less hl h.1).2⟩
def pickP (x : TFeature) (os : List TFeature) (least b : Int) (i : Nat) : Bool := decide (sizeA x i < least) && (decide (b < 0) || decide (sizeA x i < sizeA x b.toNat)) && canS x i os
def bestTo (x : TFeature) (os : List TFeature) (least : Int) : Nat → Int
  | 0 => -1
  | n + 1 => if pickP x os least (bestTo x os least n) n = true then (n : Int) else bestTo x os least n
abbrev bestF (x : TFeature) (os : List TFeature) (least : Int) : Int := bestTo x os least x.points.length
theorem best_form (x : TFeature) (os : List TFeature) (least : Int) : ∀ n, bestTo x os least n = -1 ∨ ∃ k : Nat, k < n ∧ bestTo x os least n = (k : Int) ∧ canS x k os = true
  | 0 => .inl rfl
  | n + 1 => by
    rw [bestTo]
    split
    · rename_i h
      unfold pickP at h
      simp only [Bool.and_eq_true] at h
      exact .inr ⟨n, by omega, rfl, h.2⟩
    · rcases best_form x os least n with h | ⟨k, h1, h2⟩
      · exact .inl h
      · exact .inr ⟨k, by omega, h2⟩
theorem best_y {x : TFeature} {os : List TFeature} {least : Int} {n : Nat} (h : pickP x os least (bestTo x os least n) n = true) : bestTo x os least (n + 1) = (n : Int) := by rw [bestTo, if_pos h]
theorem best_n {x : TFeature} {os : List TFeature} {least : Int} {n : Nat} (h : pickP x os least (bestTo x os least n) n = false) : bestTo x os least (n + 1) = bestTo x os least n := by rw [bestTo, if_neg (by rw [h]; decide)]
def shr (os : List TFeature) (least : Int) (x : TFeature) : TFeature := if h : 0 ≤ bestF x os least ∧ (dfF x (bestF x os least).toNat).points.length < x.points.length then shr os least (dfF x (bestF x os least).toNat) else x
termination_by x.points.length
decreasing_by exact h.2
theorem shr_step {os : List TFeature} {least : Int} {x : TFeature} {k : Nat} (hl : x.points.length ≤ 1048576) (h : bestF x os least = (k : Int)) (hc : canS x k os = true) : shr os least x = shr os least (dfF x k) ∧ (dfF x k).points.length < x.points.length := by
  have h2 := (dfF_less hl (can_ge hl hc).1).1
  refine ⟨?_, by omega⟩
  have e : (bestF x os least).toNat = k := by rw [h]; rfl
  rw [shr, dif_pos (by rw [e, h]; omega), e]
theorem shr_end {os : List TFeature} {least : Int} {x : TFeature} (h : bestF x os least = -1) : shr os least x = x := by
  rw [shr, dif_neg (by rw [h]; omega)]
def mtTo (S T : List TSegment) (i : Nat) : Int := (S.take i).foldl (fun n s => meetR s T n) 0
def mrTo (s : TSegment) (T : List TSegment) (n : Int) (k : Nat) : Int := (T.take k).foldl (fun n y => wmax n (hmI s y)) n
theorem mtTo_succ {S T : List TSegment} {i : Nat} {s : TSegment} (h : S[i]? = some s) : mtTo S T (i + 1) = mrTo s T (mtTo S T i) T.length := by
  unfold mtTo mrTo
  rw [take_succ_of h, List.foldl_append, List.take_length]
  rfl
theorem mrTo_succ {s : TSegment} {T : List TSegment} {n : Int} {k : Nat} {y : TSegment} (h : T[k]? = some y) : mrTo s T n (k + 1) = wmax (mrTo s T n k) (hmI s y) := by
  unfold mrTo
  rw [take_succ_of h, List.foldl_append]
  rfl
theorem mt_all (a b : TFeature) : mtTo (partsOf a) (partsOf b) (partsOf a).length = meetF a b := by
  unfold mtTo meetF
  rw [List.take_length]
theorem canS_n {x : TFeature} {i : Nat} {os : List TFeature} (h : dfOk x i = false) : canS x i os = false := by rw [canS, h]; rfl
theorem can_all {x : TFeature} {i : Nat} {os : List TFeature} (h : dfOk x i = true) : canS x i os = (os.take os.length).all (canP x i) := by rw [canS, h, List.take_length]; rfl
theorem all_no {α : Type} {l : List α} {p : α → Bool} {k : Nat} (h : (l.take k).all p = false) : l.all p = false := by
  rw [List.all_eq_false] at h ⊢
  obtain ⟨x, hx, hp⟩ := h
  exact ⟨x, List.mem_of_mem_take hx, hp⟩
def canTo (x : TFeature) (j : Nat) (os : List TFeature) (k : Nat) : Bool := dfOk x j && (os.take k).all (canP x j)
theorem canTo_succ {x o : TFeature} {j k : Nat} {os : List TFeature} (ho : os[k]? = some o) (h : canTo x j os k = true) : canTo x j os (k + 1) = decide (meetF (dfF x j) o ≤ meetF x o) := by
  unfold canTo at h ⊢
  rw [Bool.and_eq_true] at h
  rw [h.1, Bool.true_and, all_take_y ho h.2]
  rfl
theorem canTo_end {x : TFeature} {j k : Nat} {os : List TFeature} (h : canTo x j os k = false ∨ k = os.length) : canTo x j os k = canS x j os := by
  rcases h with h | h
  · rw [h]
    unfold canTo at h
    unfold canS
    cases hd : dfOk x j
    · rfl
    · rw [hd, Bool.true_and] at h
      rw [all_no h]
      rfl
  · rw [h]
    unfold canTo canS
    rw [List.take_length]
theorem canS_no {x o : TFeature} {j k : Nat} {os : List TFeature} (ho : os[k]? = some o) (h : canP x j o = false) : canS x j os = false := by
  unfold canS
  have : os.all (canP x j) = false := by
    rw [List.all_eq_false]
    exact ⟨o, List.mem_of_getElem? ho, by rw [h]; decide⟩
  rw [this, Bool.and_false]
theorem pick_cases {x : TFeature} (os : List TFeature) (least : Int) (i : Nat) (hl : x.points.length ≤ 1048576) :
    (decide (sizeA x i ≥ 0) = false ∧ canS x i os = false ∧ bestTo x os least (i + 1) = bestTo x os least i) ∨
    (decide (sizeA x i ≥ 0) = true ∧ decide (sizeA x i < least) = false ∧ bestTo x os least (i + 1) = bestTo x os least i) ∨
    (decide (sizeA x i ≥ 0) = true ∧ decide (sizeA x i < least) = true ∧ decide (bestTo x os least i < 0) = true ∧ canS x i os = false ∧ bestTo x os least (i + 1) = bestTo x os least i) ∨
    (decide (sizeA x i ≥ 0) = true ∧ decide (sizeA x i < least) = true ∧ decide (bestTo x os least i < 0) = true ∧ canS x i os = true ∧ bestTo x os least (i + 1) = (i : Int)) ∨
    (decide (sizeA x i ≥ 0) = true ∧ decide (sizeA x i < least) = true ∧ decide (bestTo x os least i < 0) = false ∧ (∃ k : Nat, bestTo x os least i = (k : Int)) ∧ decide (sizeA x i < sizeA x (bestTo x os least i).toNat) = false ∧ bestTo x os least (i + 1) = bestTo x os least i) ∨
    (decide (sizeA x i ≥ 0) = true ∧ decide (sizeA x i < least) = true ∧ decide (bestTo x os least i < 0) = false ∧ (∃ k : Nat, bestTo x os least i = (k : Int)) ∧ decide (sizeA x i < sizeA x (bestTo x os least i).toNat) = true ∧ canS x i os = false ∧ bestTo x os least (i + 1) = bestTo x os least i) ∨
    (decide (sizeA x i ≥ 0) = true ∧ decide (sizeA x i < least) = true ∧ decide (bestTo x os least i < 0) = false ∧ (∃ k : Nat, bestTo x os least i = (k : Int)) ∧ decide (sizeA x i < sizeA x (bestTo x os least i).toNat) = true ∧ canS x i os = true ∧ bestTo x os least (i + 1) = (i : Int)) := by
  have no : pickP x os least (bestTo x os least i) i = false → bestTo x os least (i + 1) = bestTo x os least i := best_n
  have yes : pickP x os least (bestTo x os least i) i = true → bestTo x os least (i + 1) = (i : Int) := best_y
  have hf := best_form x os least i
  generalize bestTo x os least (i + 1) = b1 at *
  generalize bestTo x os least i = b at *
  unfold pickP at no yes
  cases h0 : decide (sizeA x i ≥ 0)
  · have hc : canS x i os = false := by
      cases hc : canS x i os
      · rfl
      · have := (can_ge hl hc).2
        simp at h0
        omega
    exact .inl ⟨rfl, hc, no (by rw [hc, Bool.and_false])⟩
  · right
    cases h1 : decide (sizeA x i < least)
    · exact .inl ⟨rfl, rfl, no (by rw [h1]; rfl)⟩
    · right
      rcases hf with hb | ⟨k, _, hb, _⟩
      · have h2 : decide (b < 0) = true := by rw [hb]; rfl
        cases hc : canS x i os
        · exact .inl ⟨rfl, rfl, h2, rfl, no (by rw [hc, Bool.and_false])⟩
        · exact .inr (.inl ⟨rfl, rfl, h2, rfl, yes (by rw [h1, h2, hc]; rfl)⟩)
      · have h2 : decide (b < 0) = false := by rw [hb]; simp
        right; right
        cases h3 : decide (sizeA x i < sizeA x b.toNat)
        · exact .inl ⟨rfl, rfl, h2, ⟨k, hb⟩, rfl, no (by rw [h1, h2, h3]; rfl)⟩
        · right
          cases hc : canS x i os
          · exact .inl ⟨rfl, rfl, h2, ⟨k, hb⟩, rfl, rfl, no (by rw [hc, Bool.and_false])⟩
          · exact .inr ⟨rfl, rfl, h2, ⟨k, hb⟩, rfl, rfl, yes (by rw [h1, h2, h3, hc]; rfl)⟩

end Go.Proofs.YtpffahmmklpifaaGreat.Abs
