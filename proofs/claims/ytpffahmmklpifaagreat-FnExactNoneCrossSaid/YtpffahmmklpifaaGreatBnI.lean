/- Part I of the walk over abstract states and of the functions' walks. -/
import Derived.Test.YtpffahmmklpifaaGreatWkStep
import Derived.Test.YtpffahmmklpifaaGreatBnH
import Derived.Test.YtpffahmmklpifaaGreatBnF
import Derived.Test.YtpffahmmklpifaaGreatAbsTG
import Derived.Test.YtpffahmmklpifaaGreatBnE
/- Meetings: plain. -/
namespace Go.Proofs.YtpffahmmklpifaaGreat.Abs
open Go.Proofs Go.RowKit
set_option linter.unusedVariables false
set_option linter.unusedSimpArgs false
set_option maxRecDepth 100000
set_option maxHeartbeats 2000000
attribute [local irreducible] OpA AL AW DL DLM DLR DLS QOp POp VCalls VCallsI
def mtMk (x y : TFeature) : Option TMeet := if (meetF x y != 0) = true then some ⟨x.id, y.id, meetF x y⟩ else none
def rowTo (x : TFeature) (r : List TFeature) (j : Nat) : List TMeet := (r.take j).filterMap (mtMk x)
def mtsTo (l : List TFeature) : Nat → List TMeet
  | 0 => []
  | i + 1 => match l[i]? with
    | some x => mtsTo l i ++ (l.drop (i + 1)).filterMap (mtMk x)
    | none => mtsTo l i
def mtsIn (l : List TFeature) (x : TFeature) (i j : Nat) : List TMeet := mtsTo l i ++ rowTo x (l.drop (i + 1)) j
def nMt (l : List TFeature) : Nat := if isSource l = true then l.length else 0
def mts (l : List TFeature) : List TMeet := mtsTo l (nMt l)
theorem mts_t {l : List TFeature} (h : isSource l = true) : mts l = mtsTo l l.length := by rw [mts, nMt, if_pos h]
theorem mts_f {l : List TFeature} (h : isSource l = false) : mts l = [] := by rw [mts, nMt, h]; rfl
theorem nMt_t {l : List TFeature} {i : Nat} (h : i < nMt l) : isSource l = true ∧ nMt l = l.length := by
  unfold nMt at h ⊢
  split at h
  · rename_i e
    rw [if_pos e]
    exact ⟨e, rfl⟩
  · omega
theorem nMt_le (l : List TFeature) : nMt l ≤ l.length := by unfold nMt; split <;> omega
theorem nMt_end {l : List TFeature} : (decide (((nMt l : Nat) : Int) < ((l.map TFeature.en).length : Int)) && isSource l) = false := by
  unfold nMt
  cases isSource l <;> simp
theorem mtsIn_0 (l : List TFeature) (x : TFeature) (i : Nat) : mtsIn l x i 0 = mtsTo l i := by simp [mtsIn, rowTo]
theorem mtsIn_end {l : List TFeature} {x : TFeature} {i j : Nat} (hx : l[i]? = some x) (hj : (l.drop (i + 1)).length ≤ j) : mtsIn l x i j = mtsTo l (i + 1) := by
  rw [mtsIn, rowTo, List.take_of_length_le hj, mtsTo, hx]
theorem mtsIn_succ {l : List TFeature} {x y : TFeature} {i j : Nat} (hy : l[i + 1 + j]? = some y) : mtsIn l x i (j + 1) = mtsIn l x i j ++ (mtMk x y).toList := by
  have h : (l.drop (i + 1))[j]? = some y := by rw [List.getElem?_drop]; exact hy
  unfold mtsIn rowTo
  rw [take_succ_of h, List.filterMap_append, List.append_assoc]
  congr 2
theorem mtsIn_y {l : List TFeature} {x y : TFeature} {i j : Nat} (hy : l[i + 1 + j]? = some y) (h : (meetF x y != 0) = true) : (mtsIn l x i (j + 1)).map TMeet.en = (mtsIn l x i j).map TMeet.en ++ [[I x.id, I y.id, I (meetF x y)]] ∧ (mtsIn l x i (j + 1)).length = (mtsIn l x i j).length + 1 := by
  rw [mtsIn_succ hy, mtMk, if_pos h]
  simp [TMeet.en]
theorem mtsIn_n {l : List TFeature} {x y : TFeature} {i j : Nat} (hy : l[i + 1 + j]? = some y) (h : (meetF x y != 0) = false) : (mtsIn l x i (j + 1)).map TMeet.en = (mtsIn l x i j).map TMeet.en ∧ (mtsIn l x i (j + 1)).length = (mtsIn l x i j).length := by
  rw [mtsIn_succ hy, mtMk, if_neg (by rw [h]; decide)]
  simp
theorem mtsTo_len {l : List TFeature} (hl : l.length ≤ 16) : ∀ i, i ≤ l.length → (mtsTo l i).length ≤ i * 16
  | 0, _ => by simp [mtsTo]
  | i + 1, hi => by
    have h := mtsTo_len hl i (by omega)
    obtain ⟨x, hx⟩ := getD_some (l := l) (i := i) (by omega)
    rw [mtsTo, hx]
    show (mtsTo l i ++ _).length ≤ _
    rw [List.length_append]
    have h2 := List.length_filterMap_le (mtMk x) (l.drop (i + 1))
    rw [List.length_drop] at h2
    omega
theorem mtsIn_len {l : List TFeature} (hl : l.length ≤ 16) {x : TFeature} {i j : Nat} (hi : i ≤ l.length) (hj : j ≤ 16) : (mtsIn l x i j).length ≤ i * 16 + 16 := by
  have h := mtsTo_len hl i hi
  unfold mtsIn rowTo
  rw [List.length_append]
  have h2 := List.length_filterMap_le (mtMk x) ((l.drop (i + 1)).take j)
  rw [List.length_take] at h2
  omega
theorem mts_len (l : List TFeature) : (mts l).length ≤ 256 := by
  cases hS : isSource l
  · rw [mts_f hS]; simp
  · have h1 := src_len hS
    rw [mts_t hS]
    have := mtsTo_len h1 l.length (Nat.le_refl _)
    omega
def mtLe (x y : TMeet) : Bool := x.a == y.a && x.b == y.b && decide (x.how ≤ y.how)
def noMore (a b : List TMeet) : Bool := a.all fun x => b.any (mtLe x)
theorem any_take_succ {α : Type} {l : List α} {p : α → Bool} {i : Nat} {x : α} (hx : l[i]? = some x) : (l.take (i + 1)).any p = ((l.take i).any p || p x) := by
  rw [take_succ_of hx, List.any_append]
  simp
def chtR (l : List TFeature) (v : TLevel) : TChart := if chtOk l v = true then chart l v else chart0
theorem chtR_t {l : List TFeature} {v : TLevel} (h : chtOk l v = true) : chtR l v = chart l v := by rw [chtR, if_pos h]
theorem chtR_f {l : List TFeature} {v : TLevel} (h : chtOk l v = false) : chtR l v = chart0 := by rw [chtR, if_neg (by rw [h]; decide)]
theorem chtR_gd {l : List TFeature} (hg : ∀ x ∈ l, x.gd) (v : TLevel) : ∀ x ∈ (chtR l v).features, x.gd := by
  unfold chtR
  split
  · exact chF_gd hg v
  · intro x hx; simp [chart0] at hx
theorem chtR_src {l : List TFeature} (v : TLevel) : isSource (chtR l v).features = true := by
  unfold chtR
  split
  · rename_i h
    exact chF_src (chtOk_t h).1 v
  · rfl
theorem View.tupC {M : Mem} {cs cs' : List AV} (h : VwL M cs cs') : View M (.tup cs) (.tup cs') := fun base w0 w Fx β Fc u hh hF hown hr => by
  cases hr with
  | tup hl h2 => exact .tup (by rw [hl, h.get.1]) (fun i x' u hx' hu => by
      have hil : i < cs.length := by have := (List.getElem?_eq_some_iff.1 hx').1; rw [← h.get.1]; exact this
      exact h.get.2 i _ x' (List.getElem?_eq_getElem hil) hx' base w0 w Fx β Fc u hh hF hown (h2 i _ u (List.getElem?_eq_getElem hil) hu))
theorem nil_chart : View [] (.tup [.agg [.c (.slice none 0 0), .c (.slice none 0 0)], B false]) (.tup [.agg chart0.en, B false]) :=
  View.tupC (VwL.cons (View.agg' (VwL.cons View.nil (VwL.cons View.nil VwL.nil))) (VwL.cons (View.same (clo_c _)) VwL.nil))

end Go.Proofs.YtpffahmmklpifaaGreat.Abs

/- The walks of MeetsOf, NoMore and NoneCross. -/
namespace Go.Proofs.YtpffahmmklpifaaGreat.Abs
open Go.Proofs Go.RowKit
set_option linter.unusedVariables false
set_option linter.unusedSimpArgs false
set_option maxRecDepth 100000
set_option maxHeartbeats 2000000
attribute [local irreducible] OpA AL AW DL DLM DLR DLS QOp POp VCalls VCallsI
attribute [local irreducible] chF plN srcOf meetF mtsIn mtsTo
theorem mts_s (l : List TFeature) (hl : l.length ≤ 1048576) (hg0 : ∀ x ∈ l, x.gd) : VCalls Tryz.prog 86 [.ro 5 (l.map TFeature.en)] (fun r M => r = .ro 3 ((mts l).map TMeet.en) ∧ M = []) := by
  refine VB Tryz.func86 52 (fun E hE => ?_)
  have a1 := True.intro
  have hclo : Clo (.ro 5 (l.map TFeature.en)) := clo_list TFeature.clo_en
  repeat' ((first
    | (refine iAL ?_; first | refine AL.any ?_ | refine AL.any (h := POp.k Tryz.func150 (hc := meetF_s x y hgx hgy0)) ?_ | refine AL.W ?_ | refine AL.W (h := fun h => by (try rw [h]); exact POp.k Tryz.func78 (hc := isSource_s l hl hg0)) ?_ | refine AL.nil ?_)
    | ((with_reducible show DL ..); first | refine DL.any ?_ | refine DL.nil ?_)
    | ((with_reducible show DLM ..); first | refine DLM.any ?_ | refine DLM.mk ?_ | refine DLM.nil ?_)
    | (refine iAW ?_; first | (refine AW.freezeRet (t := 2) (id := 0) rfl rfl rfl rfl (clo_rows TMeet.clo_en) ?_; (try simp only [List.take_length]); try dsimp only [dput, List.set, cond_true, cond_false, Nat.zero_add, Nat.add_zero, Nat.reduceAdd, splice, List.take, List.drop, List.length, List.nil_append, List.cons_append, List.append, TPoint.en, TSegment.en, TBox.en, TFeature.en, TMeet.en, TPlace.en, TCover.en, TLabel.en, TPiece.en, TLevel.en, TChart.en, TReason.en, TEdit.en, TEntry.en, TEdition.en, TListing.en, TAtlas.en, TEvent.en, TWindow.en]) | (refine AW.c0 ?_; constructor) | refine AW.dr (id := 8) 8 ?_ | refine AW.drM (id := 10) 14 13 ?_ | refine AW.cT ?_ | refine AW.cF ?_)
    | (
  have _ := a1
  clear a1
  refine AW.loopD hE (fun s_ : Nat => [.ro 5 (l.map TFeature.en), .any, .any, .own 0 (mtsTo l s_).length, I (s_ : Int), .any, .any, .any, .any, .any, .any, .any, .any, .any, .any, .any, .any, .any, .any, .any, .any, .any, .any, .any, .any, .any, .any, .any, .any, .any, .any, .any, .any, .any, .any, .any, .any, .any, .any, .any, .any, .any, .any, .any, .any, .any, .any, .any, .any, .any, .any, .any, .any]) (fun s_ => [some ⟨178, 3, (mtsTo l s_).length, false, ((mtsTo l s_)).map TMeet.en⟩]) (fun s_ => nMt l - s_) (fun s_ => s_ ≤ nMt l) 0 (Nat.zero_le _) ?_ (by first | rfl | ((simp [mtsTo]))) ?_
  (focus ((refine wkj ?_; repeat' with_reducible constructor) <;> first | rfl | (simp [mtsTo])))
  rintro i hJ
  try dsimp only at hJ
  try dsimp only
  by_cases hlt : i < nMt l
  case' pos =>
    have a2 := True.intro
    obtain ⟨hS, hN⟩ := nMt_t hlt
    obtain ⟨x, hx⟩ := getD_some (l := l) (i := i) (by omega)
    have hg := map_get (f := TFeature.en) hx
    have ht : (decide ((i : Int) < ((l.map TFeature.en).length : Int)) && isSource l) = true := by rw [hS]; simp; omega
    have hn := next_ix hlt (by have := nMt_le l; omega)
    have hil := hlt
    have hsl := src_len hS
    have hgx := hg0 x (List.mem_of_getElem? hx)
    have hcle : Clo (.agg x.en) := Clo.agg x.clo_en
    have hclD : Clo (.ro 5 ((l.drop (i + 1)).map TFeature.en)) := clo_list TFeature.clo_en
    have hml := mtsTo_len hsl i (by omega)
    have h00 := mtsIn_0 l x i
  case' neg =>
    have q1 := True.intro
    have ei : i = nMt l := by omega
    have ht : (decide ((i : Int) < ((l.map TFeature.en).length : Int)) && isSource l) = false := by rw [ei]; exact nMt_end
    have hres : mts l = mtsTo l i := by rw [ei]; rfl)
    | (
  have _ := a2
  clear a2
  refine AW.loopD hE (fun s_ : Nat => [.ro 5 (l.map TFeature.en), .any, .any, .own 0 (mtsIn l x i s_).length, I (i : Int), I ((i + 1 + s_ : Nat) : Int), .any, .any, .any, .any, .any, .any, .any, .any, .any, .any, .any, .any, .any, .any, .any, .any, .any, .any, .any, .any, .any, .any, .any, .any, .any, .any, .any, .any, .any, .any, .any, .any, .any, .any, .any, .any, .any, .any, .any, .any, .any, .any, .any, .any, .any, .any, .any]) (fun s_ => [some ⟨178, 3, (mtsIn l x i s_).length, false, (mtsIn l x i s_).map TMeet.en⟩]) (fun s_ => l.length - (i + 1 + s_)) (fun s_ => i + 1 + s_ ≤ l.length) 0 (by omega) ?_ (by first | rfl | ((rw [h00] <;> rfl))) ?_
  (focus ((refine wkj ?_; repeat' with_reducible constructor) <;> first | rfl | (rw [h00]; done) | (rw [hn]; done)))
  rintro j hJ2
  try dsimp only at hJ2
  try dsimp only
  by_cases hlt : i + 1 + j < l.length
  case' pos =>
    have p2 := True.intro
    have hsl := src_len hS
    obtain ⟨y, hy⟩ := getD_some (l := l) (i := i + 1 + j) hlt
    have hgy0 := hg0 y (List.mem_of_getElem? hy)
    have hcly : Clo (.agg y.en) := Clo.agg y.clo_en
    have hclP : Clo (.ro 2 (y.points.map TPoint.en)) := clo_list TPoint.clo_en
    have hclX : Clo (.ro 2 (x.points.map TPoint.en)) := clo_list TPoint.clo_en
    have hil2 := (List.getElem?_eq_some_iff.1 hx).1
    have hml2 := mtsIn_len hsl (x := x) (i := i) (j := j) (by omega) (by omega)
    rcases Bool.eq_false_or_eq_true (meetF x y != 0) with hk | hk
    case' inl => obtain ⟨hm1, hm2⟩ := mtsIn_y hy hk
    case' inr => obtain ⟨hm1, hm2⟩ := mtsIn_n hy hk
    all_goals have hgy := map_get (f := TFeature.en) hy
    all_goals have hty := lt_true (f := TFeature.en) hlt
    all_goals have hny : IntKind.i64.wrap (((i + 1 + j : Nat) : Int) + 1) = ((i + 1 + (j + 1) : Nat) : Int) := by rw [w64 (by omega) (by omega)]; omega
  case' neg =>
    have q2 := True.intro
    have hty : decide (((i + 1 + j : Nat) : Int) < ((l.map TFeature.en).length : Int)) = false := by rw [List.length_map]; simp; omega
    have hen := mtsIn_end (j := j) hx (by rw [List.length_drop]; omega))) <;> (try dsimp only))
  all_goals first
    | (have _ := p2; refine ⟨j + 1, _, (by omega), by omega, ?_, by rw [hm1, hm2] <;> rfl, ?_, ?_⟩; (focus (exact wkH)); (focus (exact fitsA)); (focus (exact fits_row (clo_rows TMeet.clo_en))))
    | (have _ := q2; refine ⟨i + 1, _, hil, by omega, ?_, by rw [hen] <;> rfl, ?_, ?_⟩; (focus ((refine wkj ?_; repeat' with_reducible constructor) <;> first | rfl | (rw [hen]; done) | (rw [hn]; done))); (focus (exact fitsA)); (focus (exact fits_row (clo_rows TMeet.clo_en))))
    | (have _ := q1; exact Fin.one rfl (RV.tmp (by rfl)) (clo_list TMeet.clo_en) ⟨by rw [hres], rfl⟩)

theorem mts_i (l : List TFeature) (hl : l.length ≤ 1048576) (hg0 : ∀ x ∈ l, x.gd) : VCalls Tryz.prog 88 [.ro 5 (l.map TFeature.en)] (fun r M => r = .ro 3 ((mts l).map TMeet.en) ∧ M = []) := by
  refine VB Tryz.func88 46 (fun E hE => ?_)
  have a1 := True.intro
  have hclo : Clo (.ro 5 (l.map TFeature.en)) := clo_list TFeature.clo_en
  rcases Bool.eq_false_or_eq_true (isSource l) with hS | hS
  repeat' ((first
    | (refine iAL ?_; first | refine AL.any ?_ | refine AL.any (h := POp.k Tryz.func80 (hc := isSource_i l hl hg0)) ?_ | refine AL.any (h := POp.k Tryz.func151 (hc := meetF_i x y hgx hgy0)) ?_ | refine AL.nil ?_)
    | (refine iAW ?_; first | (refine AW.freezeRet (t := 2) (id := 0) rfl rfl rfl rfl (clo_rows TMeet.clo_en) ?_; (try simp only [List.take_length]); try dsimp only [dput, List.set, cond_true, cond_false, Nat.zero_add, Nat.add_zero, Nat.reduceAdd, splice, List.take, List.drop, List.length, List.nil_append, List.cons_append, List.append, TPoint.en, TSegment.en, TBox.en, TFeature.en, TMeet.en, TPlace.en, TCover.en, TLabel.en, TPiece.en, TLevel.en, TChart.en, TReason.en, TEdit.en, TEntry.en, TEdition.en, TListing.en, TAtlas.en, TEvent.en, TWindow.en]) | (refine AW.freezeRet (t := 2) (id := 0) rfl rfl rfl rfl clo_rows_nil ?_; (try simp only [List.take_length]); try dsimp only [dput, List.set, cond_true, cond_false, Nat.zero_add, Nat.add_zero, Nat.reduceAdd, splice, List.take, List.drop, List.length, List.nil_append, List.cons_append, List.append, TPoint.en, TSegment.en, TBox.en, TFeature.en, TMeet.en, TPlace.en, TCover.en, TLabel.en, TPiece.en, TLevel.en, TChart.en, TReason.en, TEdit.en, TEntry.en, TEdition.en, TListing.en, TAtlas.en, TEvent.en, TWindow.en]) | (refine AW.c0 ?_; constructor) | refine AW.cT ?_ | refine AW.cF ?_)
    | (refine AL.any (h := POp.quiet (QOp.cut_l (by rfl) slk45 (by rfl) (by rfl) (by assumption) (by assumption) (by assumption))) ?_)
    | (
  have _ := a1
  clear a1
  refine AW.loopD hE (fun s_ : Nat => [.ro 5 (l.map TFeature.en), .any, .any, .own 0 (mtsTo l s_).length, .any, .any, .any, .any, .any, .any, .any, .any, .any, .any, .ro 5 (l.map TFeature.en), I ((l.map TFeature.en).length : Int), I (s_ : Int), .any, .any, .any, .any, .any, .any, .any, .any, .any, .any, .any, .any, .any, .any, .any, .any, .any, .any, .any, .any, .any, .any, .any, .any, .any, .any, .any, .any, .any, .any]) (fun s_ => [some ⟨178, 3, (mtsTo l s_).length, false, ((mtsTo l s_)).map TMeet.en⟩]) (fun s_ => l.length - s_) (fun s_ => s_ ≤ l.length) 0 (Nat.zero_le _) ?_ (by first | rfl | ((simp [mtsTo]))) ?_
  (focus ((refine wkj ?_; repeat' with_reducible constructor) <;> first | rfl | (simp [mtsTo])))
  rintro i hJ
  try dsimp only at hJ
  try dsimp only
  by_cases hlt : i < l.length
  case' pos =>
    have a2 := True.intro
    obtain ⟨x, hx⟩ := getD_some (l := l) (i := i) hlt
    have hg := map_get (f := TFeature.en) hx
    have ht := lt_true (f := TFeature.en) hlt
    have hn := next_ix hlt (by omega)
    have hil := hlt
    have hK1 : IntKind.i64.wrap ((i : Int) + 1) ≤ ((l.map TFeature.en).length : Int) := by rw [hn, List.length_map]; omega
    have hK0 : 0 ≤ IntKind.i64.wrap ((i : Int) + 1) := by rw [hn]; omega
    have hd0 : (l.map TFeature.en).drop (IntKind.i64.wrap ((i : Int) + 1)).toNat = (l.drop (i + 1)).map TFeature.en := by rw [hn, Int.toNat_natCast, List.map_drop]
    have hsl := src_len hS
    have hgx := hg0 x (List.mem_of_getElem? hx)
    have hcle : Clo (.agg x.en) := Clo.agg x.clo_en
    have hclD : Clo (.ro 5 ((l.drop (i + 1)).map TFeature.en)) := clo_list TFeature.clo_en
    have hml := mtsTo_len hsl i (by omega)
    have h00 := mtsIn_0 l x i
  case' neg =>
    have q1 := True.intro
    have ht := lt_false (f := TFeature.en) hlt
    have ei : i = l.length := by omega
    have hres : mts l = mtsTo l i := by rw [ei, mts_t hS])
    | (
  have _ := a2
  clear a2
  refine AW.loopD hE (fun s_ : Nat => [.ro 5 (l.map TFeature.en), .any, .any, .own 0 (mtsIn l x i s_).length, .any, .ref 1 0 5 0 0, .any, .any, .any, .any, .any, .any, .any, .any, .ro 5 (l.map TFeature.en), I ((l.map TFeature.en).length : Int), I (i : Int), .any, .any, .any, .any, .any, .any, .any, .ro 5 ((l.drop (i + 1)).map TFeature.en), I (((l.drop (i + 1)).map TFeature.en).length : Int), I (s_ : Int), .any, .any, .any, .any, .any, .any, .any, .any, .any, .any, .any, .any, .any, .any, .any, .any, .any, .any, .any, .any]) (fun s_ => [some ⟨178, 3, (mtsIn l x i s_).length, false, (mtsIn l x i s_).map TMeet.en⟩, some ⟨81, 5, 0, true, [x.en]⟩]) (fun s_ => l.length - (i + 1 + s_)) (fun s_ => i + 1 + s_ ≤ l.length) 0 (by omega) ?_ (by first | rfl | ((rw [h00] <;> rfl))) ?_
  (focus ((refine wkj ?_; repeat' with_reducible constructor) <;> first | rfl | (rw [h00]; done)))
  rintro j hJ2
  try dsimp only at hJ2
  try dsimp only
  by_cases hlt : i + 1 + j < l.length
  case' pos =>
    have p2 := True.intro
    have hsl := src_len hS
    obtain ⟨y, hy⟩ := getD_some (l := l) (i := i + 1 + j) hlt
    have hgy0 := hg0 y (List.mem_of_getElem? hy)
    have hcly : Clo (.agg y.en) := Clo.agg y.clo_en
    have hclP : Clo (.ro 2 (y.points.map TPoint.en)) := clo_list TPoint.clo_en
    have hclX : Clo (.ro 2 (x.points.map TPoint.en)) := clo_list TPoint.clo_en
    have hil2 := (List.getElem?_eq_some_iff.1 hx).1
    have hml2 := mtsIn_len hsl (x := x) (i := i) (j := j) (by omega) (by omega)
    rcases Bool.eq_false_or_eq_true (meetF x y != 0) with hk | hk
    case' inl => obtain ⟨hm1, hm2⟩ := mtsIn_y hy hk
    case' inr => obtain ⟨hm1, hm2⟩ := mtsIn_n hy hk
    all_goals have hgy : ((l.drop (i + 1)).map TFeature.en)[((j : Int)).toNat]? = some y.en := by rw [Int.toNat_natCast, List.getElem?_map, List.getElem?_drop, hy]; rfl
    all_goals have hty : decide ((j : Int) < (((l.drop (i + 1)).map TFeature.en).length : Int)) = true := by rw [List.length_map, List.length_drop]; simp; omega
    all_goals have hny : IntKind.i64.wrap ((j : Int) + 1) = ((j + 1 : Nat) : Int) := by rw [w64 (by omega) (by omega)]; rfl
  case' neg =>
    have q2 := True.intro
    have hty : decide ((j : Int) < (((l.drop (i + 1)).map TFeature.en).length : Int)) = false := by rw [List.length_map, List.length_drop]; simp; omega
    have hen := mtsIn_end (j := j) hx (by rw [List.length_drop]; omega))) <;> (try dsimp only))
  all_goals first
    | (have _ := p2; refine ⟨j + 1, _, (by omega), by omega, ?_, by rw [hm1, hm2] <;> rfl, ?_, ?_⟩; (focus (exact wkH)); (focus (exact fitsA)); (focus (exact fitsM_cons (clo_rows TMeet.clo_en) (fitsM_cons (clo_one x.clo_en) (FitsM.nil _)))))
    | (have _ := q2; refine ⟨i + 1, _, hil, by omega, ?_, by rw [hen] <;> rfl, ?_, ?_⟩; (focus ((refine wkj ?_; repeat' with_reducible constructor) <;> first | rfl | (rw [hen]; done) | (rw [hn]; done))); (focus (exact fitsA)); (focus (exact fits_row (clo_rows TMeet.clo_en))))
    | (have _ := q1; exact Fin.one rfl (RV.tmp (by rfl)) (clo_list TMeet.clo_en) ⟨by rw [hres] <;> rfl, rfl⟩)
    | exact Fin.one rfl (RV.tmp (by rfl)) (Clo.ro clo_rows_nil) ⟨by rw [mts_f hS] <;> rfl, rfl⟩

end Go.Proofs.YtpffahmmklpifaaGreat.Abs

/- The walks of NoMore and NoneCross. -/
namespace Go.Proofs.YtpffahmmklpifaaGreat.Abs
open Go.Proofs Go.RowKit
set_option linter.unusedVariables false
set_option linter.unusedSimpArgs false
set_option maxRecDepth 100000
set_option maxHeartbeats 2000000
attribute [local irreducible] OpA AL AW DL DLM DLR DLS QOp POp VCalls VCallsI
attribute [local irreducible] chF plN srcOf mts
theorem noM_s (p q : List TMeet) (hp : p.length ≤ 1048576) (hq : q.length ≤ 1048576) : VCalls Tryz.prog 87 [.ro 3 (p.map TMeet.en), .ro 3 (q.map TMeet.en)] (fun r M => r = B (noMore p q) ∧ M = []) := by
  refine VB Tryz.func87 60 (fun E hE => ?_)
  have a1 := True.intro
  have hclp : Clo (.ro 3 (p.map TMeet.en)) := clo_list TMeet.clo_en
  have hclq : Clo (.ro 3 (q.map TMeet.en)) := clo_list TMeet.clo_en
  repeat' ((first
    | (refine iAL ?_; first | refine AL.any ?_ | refine AL.U ?_ | refine AL.F ?_ | refine AL.T ?_ | refine AL.nil ?_)
    | ((with_reducible show DL ..); first | refine DL.any ?_ | refine DL.U ?_ | refine DL.F ?_ | refine DL.T ?_ | refine DL.nil ?_)
    | (refine iAW ?_; first | (refine AW.c0 ?_; constructor) | refine AW.dr (id := 8) 37 ?_ | refine AW.cT ?_ | refine AW.cF ?_)
    | (
  have _ := a1
  clear a1
  refine AW.loopD hE (fun s_ : Nat => [.ro 3 (p.map TMeet.en), .ro 3 (q.map TMeet.en), .any, .any, .any, I (s_ : Int), .any, .any, .any, .any, .any, .any, .any, .any, .any, .any, .any, .any, .any, .any, .any, .any, .any, .any, .any, .any, .any, .any, .any, .any, .any, .any, .any, .any, .any, .any, .any, .any, .any, .any, .any, .any, .any, .any, .any, .any, .any, .any, .any, .any, .any, .any, .any, .any, .any, .any, .any, .any, .any, .any, .any, .any]) (fun s_ => []) (fun s_ => p.length - s_) (fun s_ => s_ ≤ p.length ∧ (p.take s_).all (fun x => q.any (mtLe x)) = true) 0 ⟨Nat.zero_le _, rfl⟩ ?_ (by first | rfl | (rfl)) ?_
  (focus (exact wkI))
  rintro i hJ
  try dsimp only at hJ
  try dsimp only
  by_cases hlt : i < p.length
  case' pos =>
    have a2 := True.intro
    obtain ⟨x, hx⟩ := getD_some (l := p) (i := i) hlt
    have hg := map_get (f := TMeet.en) hx
    have ht := lt_true (f := TMeet.en) hlt
    have hn := next_ix hlt (by omega)
    have hil := hlt
    have hx0 := hJ.2
    have hcle : Clo (.agg x.en) := Clo.agg x.clo_en
  case' neg =>
    have q1 := True.intro
    have ht := lt_false (f := TMeet.en) hlt
    have ei : i = p.length := by omega
    have hres : noMore p q = true := by have h2 := hJ.2; rw [ei, List.take_length] at h2; exact h2)
    | (
  have _ := a2
  clear a2
  refine AW.loopD hE (fun s_ : Nat => [.ro 3 (p.map TMeet.en), .ro 3 (q.map TMeet.en), .any, .any, .any, I (i : Int), B ((q.take s_).any (mtLe x)), I (s_ : Int), .any, .any, .any, .any, .any, .any, .any, .any, .any, .any, .any, .any, .any, .any, .any, .any, .any, .any, .any, .any, .any, .any, .any, .any, .any, .any, .any, .any, .any, .any, .any, .any, .any, .any, .any, .any, .any, .any, .any, .any, .any, .any, .any, .any, .any, .any, .any, .any, .any, .any, .any, .any, .any, .any]) (fun s_ => []) (fun s_ => q.length - s_) (fun s_ => s_ ≤ q.length) 0 (Nat.zero_le _) ?_ (by first | rfl | (rfl)) ?_
  (focus (exact wkI))
  rintro k hJ2
  try dsimp only at hJ2
  try dsimp only
  by_cases hlt : k < q.length
  case' pos =>
    have p2 := True.intro
    obtain ⟨y, hy⟩ := getD_some (l := q) (i := k) hlt
    have hgy := map_get (f := TMeet.en) hy
    have hty := lt_true (f := TMeet.en) hlt
    have hny := next_ix hlt (by omega)
    have hcly : Clo (.agg y.en) := Clo.agg y.clo_en
    have hat := any_take_succ (p := mtLe x) hy
    rcases Bool.eq_false_or_eq_true ((q.take k).any (mtLe x)) with hb0 | hb0
    case' inr => rcases Bool.eq_false_or_eq_true (x.a == y.a) with hb1 | hb1
    case' inr.inl => rcases Bool.eq_false_or_eq_true (x.b == y.b) with hb2 | hb2
    case' inr.inl.inl => rcases Bool.eq_false_or_eq_true (decide (x.how ≤ y.how)) with hb3 | hb3
    all_goals (rw [hb0, show mtLe x y = (x.a == y.a && x.b == y.b && decide (x.how ≤ y.how)) from rfl] at hat; simp only [Bool.true_or, Bool.false_or] at hat)
    case' inr.inr => simp only [hb1, Bool.true_and, Bool.false_and, Bool.and_true, Bool.and_false] at hat
    case' inr.inl.inr => simp only [hb1, hb2, Bool.true_and, Bool.false_and, Bool.and_true, Bool.and_false] at hat
    case' inr.inl.inl.inl => simp only [hb1, hb2, hb3, Bool.true_and, Bool.false_and, Bool.and_true, Bool.and_false] at hat
    case' inr.inl.inl.inr => simp only [hb1, hb2, hb3, Bool.true_and, Bool.false_and, Bool.and_true, Bool.and_false] at hat
  case' neg =>
    have q2 := True.intro
    have hty := lt_false (f := TMeet.en) hlt
    obtain rfl : k = q.length := by omega
    rw [List.take_length]
    rcases Bool.eq_false_or_eq_true (q.any (mtLe x)) with hfr | hfr
    case' inl => have hjn := all_take_y' (p := fun x => q.any (mtLe x)) hx hx0 hfr
    case' inr => have hres : noMore p q = false := List.all_eq_false.2 ⟨x, List.mem_of_getElem? hx, by rw [hfr]; decide⟩)) <;> (try dsimp only))
  all_goals first
    | (have _ := p2; refine ⟨k + 1, _, hlt, by omega, ?_, rfl, ?_, ?_⟩; (focus ((refine wkj ?_; repeat' with_reducible constructor) <;> first | rfl | (rw [hat]; done) | (rw [hat, hb3]; done) | (rw [hny]; done))); (focus (exact fitsA)); (focus (exact FitsM.nil _)))
    | (have _ := q2; refine ⟨i + 1, _, ⟨hil, hjn⟩, by omega, ?_, rfl, ?_, ?_⟩; (focus (exact wkH)); (focus (exact fitsA)); (focus (exact FitsM.nil _)))
    | (have _ := q2; exact Fin.one rfl (RV.tmp (by rfl)) (clo_c _) ⟨by rw [hres], rfl⟩)
    | (have _ := q1; exact Fin.one rfl (RV.tmp (by rfl)) (clo_c _) ⟨by rw [hres], rfl⟩)

theorem noM_i (p q : List TMeet) (hp : p.length ≤ 1048576) (hq : q.length ≤ 1048576) : VCalls Tryz.prog 89 [.ro 3 (p.map TMeet.en), .ro 3 (q.map TMeet.en)] (fun r M => r = B (noMore p q) ∧ M = []) := by
  refine VB Tryz.func89 46 (fun E hE => ?_)
  have a1 := True.intro
  have hclp : Clo (.ro 3 (p.map TMeet.en)) := clo_list TMeet.clo_en
  have hclq : Clo (.ro 3 (q.map TMeet.en)) := clo_list TMeet.clo_en
  repeat' ((first
    | (refine iAL ?_; first | refine AL.any ?_ | refine AL.U ?_ | refine AL.F ?_ | refine AL.T ?_ | refine AL.nil ?_)
    | (refine iAW ?_; first | (refine AW.c0 ?_; constructor) | refine AW.cT ?_ | refine AW.cF ?_)
    | (
  have _ := a1
  clear a1
  refine AW.loopD hE (fun s_ : Nat => [.any, .ro 3 (q.map TMeet.en), .any, .any, .any, .any, .any, .any, .any, .any, .ro 3 (p.map TMeet.en), I ((p.map TMeet.en).length : Int), I (s_ : Int), .any, .any, .any, .any, .any, .any, .any, .any, .any, .any, .any, .any, .any, .any, .any, .any, .any, .any, .any, .any, .any, .any, .any, .any, .any, .any, .any, .any, .any, .any, .any, .any, .any, .any, .any]) (fun s_ => []) (fun s_ => p.length - s_) (fun s_ => s_ ≤ p.length ∧ (p.take s_).all (fun x => q.any (mtLe x)) = true) 0 ⟨Nat.zero_le _, rfl⟩ ?_ (by first | rfl | (rfl)) ?_
  (focus (exact wkI))
  rintro i hJ
  try dsimp only at hJ
  try dsimp only
  by_cases hlt : i < p.length
  case' pos =>
    have a2 := True.intro
    obtain ⟨x, hx⟩ := getD_some (l := p) (i := i) hlt
    have hg := map_get (f := TMeet.en) hx
    have ht := lt_true (f := TMeet.en) hlt
    have hn := next_ix hlt (by omega)
    have hil := hlt
    have hx0 := hJ.2
    have hcle : Clo (.agg x.en) := Clo.agg x.clo_en
  case' neg =>
    have q1 := True.intro
    have ht := lt_false (f := TMeet.en) hlt
    have ei : i = p.length := by omega
    have hres : noMore p q = true := by have h2 := hJ.2; rw [ei, List.take_length] at h2; exact h2)
    | (
  have _ := a2
  clear a2
  refine AW.loopD hE (fun s_ : Nat => [.any, .ro 3 (q.map TMeet.en), .any, .any, .any, .any, .ref 0 0 3 0 0, B ((q.take s_).any (mtLe x)), .any, .any, .ro 3 (p.map TMeet.en), I ((p.map TMeet.en).length : Int), I (i : Int), .any, .any, .any, .ro 3 (q.map TMeet.en), I ((q.map TMeet.en).length : Int), I (s_ : Int), .any, .any, .any, .any, .any, .any, .any, .any, .any, .any, .any, .any, .any, .any, .any, .any, .any, .any, .any, .any, .any, .any, .any, .any, .any, .any, .any, .any, .any]) (fun s_ => [some ⟨178, 3, 0, true, [x.en]⟩]) (fun s_ => q.length - s_) (fun s_ => s_ ≤ q.length) 0 (Nat.zero_le _) ?_ (by first | rfl | (rfl)) ?_
  (focus (exact wkI))
  rintro k hJ2
  try dsimp only at hJ2
  try dsimp only
  by_cases hlt : k < q.length
  case' pos =>
    have p2 := True.intro
    obtain ⟨y, hy⟩ := getD_some (l := q) (i := k) hlt
    have hgy := map_get (f := TMeet.en) hy
    have hty := lt_true (f := TMeet.en) hlt
    have hny := next_ix hlt (by omega)
    have hcly : Clo (.agg y.en) := Clo.agg y.clo_en
    have hat := any_take_succ (p := mtLe x) hy
    rcases Bool.eq_false_or_eq_true ((q.take k).any (mtLe x)) with hb0 | hb0
    case' inr => rcases Bool.eq_false_or_eq_true (x.a == y.a) with hb1 | hb1
    case' inr.inl => rcases Bool.eq_false_or_eq_true (x.b == y.b) with hb2 | hb2
    case' inr.inl.inl => rcases Bool.eq_false_or_eq_true (decide (x.how ≤ y.how)) with hb3 | hb3
    all_goals (rw [hb0, show mtLe x y = (x.a == y.a && x.b == y.b && decide (x.how ≤ y.how)) from rfl] at hat; simp only [Bool.true_or, Bool.false_or] at hat)
    case' inr.inr => simp only [hb1, Bool.true_and, Bool.false_and, Bool.and_true, Bool.and_false] at hat
    case' inr.inl.inr => simp only [hb1, hb2, Bool.true_and, Bool.false_and, Bool.and_true, Bool.and_false] at hat
    case' inr.inl.inl.inl => simp only [hb1, hb2, hb3, Bool.true_and, Bool.false_and, Bool.and_true, Bool.and_false] at hat
    case' inr.inl.inl.inr => simp only [hb1, hb2, hb3, Bool.true_and, Bool.false_and, Bool.and_true, Bool.and_false] at hat
  case' neg =>
    have q2 := True.intro
    have hty := lt_false (f := TMeet.en) hlt
    obtain rfl : k = q.length := by omega
    rw [List.take_length]
    rcases Bool.eq_false_or_eq_true (q.any (mtLe x)) with hfr | hfr
    case' inl => have hjn := all_take_y' (p := fun x => q.any (mtLe x)) hx hx0 hfr
    case' inr => have hres : noMore p q = false := List.all_eq_false.2 ⟨x, List.mem_of_getElem? hx, by rw [hfr]; decide⟩)) <;> (try dsimp only))
  all_goals first
    | (have _ := p2; refine ⟨k + 1, _, hlt, by omega, ?_, rfl, ?_, ?_⟩; (focus ((refine wkj ?_; repeat' with_reducible constructor) <;> first | rfl | (rw [hat]; done) | (rw [hat, hb3]; done) | (rw [hny]; done))); (focus (exact fitsA)); (focus (exact fitsM_cons (clo_one x.clo_en) (FitsM.nil _))))
    | (have _ := q2; refine ⟨i + 1, _, ⟨hil, hjn⟩, by omega, ?_, rfl, ?_, ?_⟩; (focus (exact wkH)); (focus (exact fitsA)); (focus (exact FitsM.nil _)))
    | (have _ := q2; exact Fin.one rfl (RV.tmp (by rfl)) (clo_c _) ⟨by rw [hres], rfl⟩)
    | (have _ := q1; exact Fin.one rfl (RV.tmp (by rfl)) (clo_c _) ⟨by rw [hres], rfl⟩)

def ncOne (l : List TFeature) (v : TLevel) : Bool := noMore (mts (chtR l v).features) (mts l)
def noneX (a : TAtlas) : Bool := a.levels.all (ncOne (srcOf a.log))
theorem chAt_s_r (a : TAtlas) (hgd : a.gd) (i : Nat) (v : TLevel) (hx : a.levels[i]? = some v) : VCalls Tryz.prog 41 [.agg a.en, I (i : Int)] (fun r M => r = .tup [.agg (chtR (srcOf a.log) v).en, B (chtOk (srcOf a.log) v)] ∧ M = []) := by
  cases hK : chtOk (srcOf a.log) v
  · rw [chtR_f hK]
    exact VCalls.frz (chAt_s_f a hgd i v hx hK) (VwL.cons nil_chart VwL.nil)
  · rw [chtR_t hK]
    exact chAt_s_t a hgd i v hx hK
theorem ncr_s (a : TAtlas) (hgd : a.gd) : VCalls Tryz.prog 37 [.agg a.en] (fun r M => r = B (noneX a) ∧ M = []) := by
  refine VB Tryz.func37 31 (fun E hE => ?_)
  have hclG : Clo (.ro 8 (a.log.map TEntry.en)) := clo_list TEntry.clo_en
  have hclV : Clo (.ro 3 (a.levels.map TLevel.en)) := clo_list TLevel.clo_en
  have hclE : Clo (.ro 3 (a.editions.map TEdition.en)) := clo_list TEdition.clo_en
  have hcla : Clo (.agg a.en) := Clo.agg a.clo_en
  have hLl := srcOf_len hgd.1.1
  have hLg : ∀ x ∈ (srcOf a.log), x.gd := srcOf_mem hgd.1.2
  have hclS : Clo (.ro 5 ((srcOf a.log).map TFeature.en)) := clo_list TFeature.clo_en
  have hvl : a.levels.length ≤ 1048576 := hgd.2.1
  have hclM : Clo (.ro 3 ((mts (srcOf a.log)).map TMeet.en)) := clo_list TMeet.clo_en
  have hml : (mts (srcOf a.log)).length ≤ 1048576 := by have := mts_len (srcOf a.log); omega
  dsimp only [TAtlas.en]
  repeat' ((first
    | (refine iAL ?_; first | refine AL.any ?_ | refine AL.any (h := POp.k Tryz.func41 (hc := chAt_s_r a hgd i v hx)) ?_ | refine AL.any (h := POp.k Tryz.func52 (hc := src_s' a.log hgd.1.1 hgd.1.2)) ?_ | refine AL.any (h := POp.k Tryz.func86 (hc := by first | exact mts_s (srcOf a.log) hLl hLg | exact mts_s (chtR (srcOf a.log) v).features hcl hcg)) ?_ | refine AL.any (h := POp.k Tryz.func87 (hc := noM_s (mts (chtR (srcOf a.log) v).features) (mts (srcOf a.log)) hm2 hml)) ?_ | refine AL.nil ?_)
    | (refine iAW ?_; first | (refine AW.c0 ?_; constructor) | refine AW.cT ?_ | refine AW.cF ?_)
    | (
  refine AW.loopD hE (fun i : Nat => [.any, .ref 0 0 7 0 0, .any, .ro 5 ((srcOf a.log).map TFeature.en), .ro 3 ((mts (srcOf a.log)).map TMeet.en), I (i : Int), .any, .any, .any, .any, .any, .any, .any, .any, .any, .any, .any, .any, .any, .any, .any, .any, .any, .any, .any, .any, .any, .any, .any, .any, .any, .any]) (fun i => [some ⟨36, 7, 0, true, [a.en]⟩]) (fun i => a.levels.length - i) (fun i => i ≤ a.levels.length ∧ (a.levels.take i).all (ncOne (srcOf a.log)) = true) 0 ⟨Nat.zero_le _, rfl⟩ ?_ (by first | rfl | (simp [fil_zero]; done)) ?_
  (focus (exact wkI))
  intro i hi
  by_cases hlt : i < a.levels.length
  case' pos =>
    have hP := True.intro
    obtain ⟨v, hx⟩ : ∃ x, a.levels[i]? = some x := ⟨_, List.getElem?_eq_getElem hlt⟩
    have hg := map_get (f := TLevel.en) hx
    have ht := lt_true (f := TLevel.en) hlt
    have hn := next_ix hlt (by omega)
    have hclv : Clo (.agg v.en) := Clo.agg v.clo_en
    have hcc : Clo (.agg (chtR (srcOf a.log) v).en) := Clo.agg (TChart.clo_en _)
    have hct : Clo (.tup [.agg (chtR (srcOf a.log) v).en, B (chtOk (srcOf a.log) v)]) := Clo.tup (clo_cons hcc (clo_cons (clo_c _) clo_nil))
    have hcg : ∀ x ∈ (chtR (srcOf a.log) v).features, x.gd := chtR_gd hLg v
    have hcl : (chtR (srcOf a.log) v).features.length ≤ 1048576 := by have := src_len (chtR_src (l := (srcOf a.log)) v); omega
    have hm2 : (mts (chtR (srcOf a.log) v).features).length ≤ 1048576 := by have := mts_len (chtR (srcOf a.log) v).features; omega
    have hclN : Clo (.ro 3 ((mts (chtR (srcOf a.log) v).features).map TMeet.en)) := clo_list TMeet.clo_en
    have hclR : Clo (.ro 5 ((chtR (srcOf a.log) v).features.map TFeature.en)) := clo_list TFeature.clo_en
    have hclL : Clo (.ro 6 ((chtR (srcOf a.log) v).labels.map TLabel.en)) := clo_list TLabel.clo_en
    rcases Bool.eq_false_or_eq_true (noMore (mts (chtR (srcOf a.log) v).features) (mts (srcOf a.log))) with hk | hk
    case' inl => have hjn := all_take_y' (p := ncOne (srcOf a.log)) hx hi.2 hk
    case' inr => have hres : noneX a = false := List.all_eq_false.2 ⟨v, List.mem_of_getElem? hx, by rw [show ncOne (srcOf a.log) v = false from hk]; decide⟩
  case' neg =>
    have hQ := True.intro
    have ht := lt_false (f := TLevel.en) hlt
    have e : i = a.levels.length := by omega
    subst e
    try rw [List.take_length])) <;> (try dsimp only))
  all_goals first
    | (have _ := hP; (refine ⟨i + 1, _, ⟨hlt, hjn⟩, by omega, ?_, rfl, ?_, ?_⟩; (focus (exact wkH)); (focus (exact fitsA)); (focus (exact fitsM_cons (clo_one a.clo_en) (FitsM.nil _)))))
    | (have _ := hP; exact Fin.one rfl (RV.tmp (by rfl)) (clo_c _) ⟨by rw [hres], rfl⟩)
    | (have _ := hQ; exact Fin.one rfl (RV.tmp (by rfl)) (clo_c _) ⟨by (have h2 := hi.2; rw [List.take_length] at h2; rw [show noneX a = true from h2]), rfl⟩)

theorem chAt_i_r (a : TAtlas) (hgd : a.gd) (i : Nat) (v : TLevel) (hx : a.levels[i]? = some v) : VCalls Tryz.prog 42 [.agg a.en, I (i : Int)] (fun r M => r = .tup [.agg (chtR (srcOf a.log) v).en, B (chtOk (srcOf a.log) v)] ∧ M = []) := by
  cases hK : chtOk (srcOf a.log) v
  · rw [chtR_f hK]
    exact VCalls.frz (chAt_i_f a hgd i v hx hK) (VwL.cons nil_chart VwL.nil)
  · rw [chtR_t hK]
    exact chAt_i_t a hgd i v hx hK
theorem ncr_i (a : TAtlas) (hgd : a.gd) : VCalls Tryz.prog 38 [.agg a.en] (fun r M => r = B (noneX a) ∧ M = []) := by
  refine VB Tryz.func38 29 (fun E hE => ?_)
  have hclG : Clo (.ro 8 (a.log.map TEntry.en)) := clo_list TEntry.clo_en
  have hclV : Clo (.ro 3 (a.levels.map TLevel.en)) := clo_list TLevel.clo_en
  have hclE : Clo (.ro 3 (a.editions.map TEdition.en)) := clo_list TEdition.clo_en
  have hcla : Clo (.agg a.en) := Clo.agg a.clo_en
  have hLl := srcOf_len hgd.1.1
  have hLg : ∀ x ∈ (srcOf a.log), x.gd := srcOf_mem hgd.1.2
  have hclS : Clo (.ro 5 ((srcOf a.log).map TFeature.en)) := clo_list TFeature.clo_en
  have hvl : a.levels.length ≤ 1048576 := hgd.2.1
  have hclM : Clo (.ro 3 ((mts (srcOf a.log)).map TMeet.en)) := clo_list TMeet.clo_en
  have hml : (mts (srcOf a.log)).length ≤ 1048576 := by have := mts_len (srcOf a.log); omega
  dsimp only [TAtlas.en]
  repeat' ((first
    | (refine iAL ?_; first | refine AL.any ?_ | refine AL.any (h := POp.k Tryz.func42 (hc := chAt_i_r a hgd i v hx)) ?_ | refine AL.any (h := POp.k Tryz.func60 (hc := src_i' a.log hgd.1.1 hgd.1.2)) ?_ | refine AL.any (h := POp.k Tryz.func88 (hc := by first | exact mts_i (srcOf a.log) hLl hLg | exact mts_i (chtR (srcOf a.log) v).features hcl hcg)) ?_ | refine AL.any (h := POp.k Tryz.func89 (hc := noM_i (mts (chtR (srcOf a.log) v).features) (mts (srcOf a.log)) hm2 hml)) ?_ | refine AL.nil ?_)
    | (refine iAW ?_; first | (refine AW.c0 ?_; constructor) | refine AW.cT ?_ | refine AW.cF ?_)
    | (
  refine AW.loopD hE (fun i : Nat => [.any, .ref 0 0 7 0 0, .any, .ro 3 ((mts (srcOf a.log)).map TMeet.en), .any, .any, .any, .any, .any, .any, .any, .any, .ro 3 (a.levels.map TLevel.en), I ((a.levels.map TLevel.en).length : Int), I (i : Int), .any, .any, .any, .any, .any, .any, .any, .any, .any, .any, .any, .any, .any, .any, .any]) (fun i => [some ⟨36, 7, 0, true, [a.en]⟩]) (fun i => a.levels.length - i) (fun i => i ≤ a.levels.length ∧ (a.levels.take i).all (ncOne (srcOf a.log)) = true) 0 ⟨Nat.zero_le _, rfl⟩ ?_ (by first | rfl | (simp [fil_zero]; done)) ?_
  (focus (exact wkI))
  intro i hi
  by_cases hlt : i < a.levels.length
  case' pos =>
    have hP := True.intro
    obtain ⟨v, hx⟩ : ∃ x, a.levels[i]? = some x := ⟨_, List.getElem?_eq_getElem hlt⟩
    have hg := map_get (f := TLevel.en) hx
    have ht := lt_true (f := TLevel.en) hlt
    have hn := next_ix hlt (by omega)
    have hclv : Clo (.agg v.en) := Clo.agg v.clo_en
    have hcc : Clo (.agg (chtR (srcOf a.log) v).en) := Clo.agg (TChart.clo_en _)
    have hct : Clo (.tup [.agg (chtR (srcOf a.log) v).en, B (chtOk (srcOf a.log) v)]) := Clo.tup (clo_cons hcc (clo_cons (clo_c _) clo_nil))
    have hcg : ∀ x ∈ (chtR (srcOf a.log) v).features, x.gd := chtR_gd hLg v
    have hcl : (chtR (srcOf a.log) v).features.length ≤ 1048576 := by have := src_len (chtR_src (l := (srcOf a.log)) v); omega
    have hm2 : (mts (chtR (srcOf a.log) v).features).length ≤ 1048576 := by have := mts_len (chtR (srcOf a.log) v).features; omega
    have hclN : Clo (.ro 3 ((mts (chtR (srcOf a.log) v).features).map TMeet.en)) := clo_list TMeet.clo_en
    have hclR : Clo (.ro 5 ((chtR (srcOf a.log) v).features.map TFeature.en)) := clo_list TFeature.clo_en
    have hclL : Clo (.ro 6 ((chtR (srcOf a.log) v).labels.map TLabel.en)) := clo_list TLabel.clo_en
    rcases Bool.eq_false_or_eq_true (noMore (mts (chtR (srcOf a.log) v).features) (mts (srcOf a.log))) with hk | hk
    case' inl => have hjn := all_take_y' (p := ncOne (srcOf a.log)) hx hi.2 hk
    case' inr => have hres : noneX a = false := List.all_eq_false.2 ⟨v, List.mem_of_getElem? hx, by rw [show ncOne (srcOf a.log) v = false from hk]; decide⟩
  case' neg =>
    have hQ := True.intro
    have ht := lt_false (f := TLevel.en) hlt
    have e : i = a.levels.length := by omega
    subst e
    try rw [List.take_length])) <;> (try dsimp only))
  all_goals first
    | (have _ := hP; (refine ⟨i + 1, _, ⟨hlt, hjn⟩, by omega, ?_, rfl, ?_, ?_⟩; (focus (exact wkH)); (focus (exact fitsA)); (focus (exact fitsM_cons (clo_one a.clo_en) (FitsM.nil _)))))
    | (have _ := hP; exact Fin.one rfl (RV.tmp (by rfl)) (clo_c _) ⟨by rw [hres], rfl⟩)
    | (have _ := hQ; exact Fin.one rfl (RV.tmp (by rfl)) (clo_c _) ⟨by (have h2 := hi.2; rw [List.take_length] at h2; rw [show noneX a = true from h2]), rfl⟩)

end Go.Proofs.YtpffahmmklpifaaGreat.Abs
