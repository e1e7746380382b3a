/- The walks of points and lines. -/
import Derived.Test.YtbkcoechoblndaaWkFacts
import Derived.Test.YtbkcoechoblndaaWkTo
import Derived.Test.YtbkcoechoblndaaWkEq
namespace Go.Proofs.Ytbkcoechoblndaa.Abs
open Go.Proofs Go.RowKit
set_option linter.unusedVariables false
set_option linter.unusedSimpArgs false
attribute [local irreducible] OpA AL AW DL DLM DLR QOp POp VCalls VCallsI
def inr (a b c : Int) : Bool := decide (b ≤ a) && decide (a ≤ c)
def isp (x y : Int) : Bool := inr x 0 200 && inr y 0 200
abbrev wadd (a b : Int) : Int := IntKind.i64.wrap (a + b)
def wmax (a b : Int) : Int := if b > a then b else a
abbrev ptE (a b : TPoint) : Bool := eqVs [.int .i64 a.x, .int .i64 a.y] [.int .i64 b.x, .int .i64 b.y]
theorem ptE_comm (a b : TPoint) : ptE a b = ptE b a := by simp [ptE, eqVs, eqV, Bool.beq_comm, BEq.comm]
def prevP (l : List TPoint) (i : Nat) : TPoint := l.getD (i - 1) ⟨0, 0⟩
def okAt (l : List TPoint) (i : Nat) : Bool := match l[i]? with
  | none => false
  | some x => isp x.x x.y && (i == 0 || !ptE (prevP l i) x)
def ptsOk (l : List TPoint) (n : Nat) : Bool := (List.range n).all (okAt l)
theorem ptsOk_succ (l : List TPoint) (i : Nat) : ptsOk l (i + 1) = (ptsOk l i && okAt l i) := by simp [ptsOk, List.range_succ]
theorem ptsOk_not {l : List TPoint} {i n : Nat} (h : okAt l i = false) (hi : i < n) : ptsOk l n = false := by
  simp only [ptsOk, List.all_eq_false, List.mem_range]
  exact ⟨i, hi, by simp [h]⟩
def isLine (l : List TPoint) : Bool := inr l.length 2 10 && ptsOk l l.length
theorem ln_cases {l : List TPoint} {i : Nat} {x : TPoint} (hx : l[i]? = some x) (hl : l.length ≤ 1048576) :
    (isp x.x x.y = false ∧ okAt l i = false) ∨ (isp x.x x.y = true ∧ decide ((i : Int) > 0) = false ∧ okAt l i = true) ∨
    (isp x.x x.y = true ∧ decide ((i : Int) > 0) = true ∧ 0 ≤ IntKind.i64.wrap ((i : Int) - 1) ∧ (l.map TPoint.en)[(IntKind.i64.wrap ((i : Int) - 1)).toNat]? = some (prevP l i).en ∧ okAt l i = !ptE (prevP l i) x) := by
  have hi := (List.getElem?_eq_some_iff.1 hx).1
  cases hI : isp x.x x.y
  · exact .inl ⟨rfl, by simp [okAt, hx, hI]⟩
  · rcases Nat.eq_zero_or_pos i with h0 | h0
    · subst h0
      exact .inr (.inl ⟨rfl, by simp, by simp [okAt, hx, hI]⟩)
    · have e : IntKind.i64.wrap ((i : Int) - 1) = ((i - 1 : Nat) : Int) := by rw [w64 (by omega) (by omega)]; omega
      refine .inr (.inr ⟨rfl, decide_eq_true (by omega), by omega, ?_, ?_⟩)
      · rw [e, Int.toNat_natCast, List.getElem?_map, List.getElem?_eq_getElem (show i - 1 < l.length by omega)]
        simp [prevP, List.getD_eq_getElem?_getD, List.getElem?_eq_getElem (show i - 1 < l.length by omega)]
      · have : (i == 0) = false := by simp; omega
        simp [okAt, hx, hI, this]
def stepsB (a b c d : Int) : Int := if isp a b && isp c d then wadd (wmax (wsub a c) (wsub c a)) (wmax (wsub b d) (wsub d b)) else -1
def segs (l : List TPoint) : List TSegment := if isLine l then List.zipWith TSegment.mk l l.tail else []
theorem isLine_len {l : List TPoint} (h : isLine l = true) : 2 ≤ l.length ∧ l.length ≤ 10 := by
  simp only [isLine, inr, Bool.and_eq_true, decide_eq_true_eq] at h
  omega
theorem segs_len {l : List TPoint} (h : isLine l = true) : (segs l).length = l.length - 1 := by simp [segs, h]
theorem segs_nil {l : List TPoint} (h : isLine l = false) : segs l = [] := by simp [segs, h]
theorem segs_le (l : List TPoint) : (segs l).length ≤ 9 := by
  cases h : isLine l
  · simp [segs_nil h]
  · have := isLine_len h; rw [segs_len h]; omega
theorem segs_get {l : List TPoint} {i : Nat} (h : i < (segs l).length) : ∃ a b, isLine l = true ∧ i + 1 < l.length ∧ l[i]? = some a ∧ l[i + 1]? = some b ∧ (segs l)[i]? = some ⟨a, b⟩ := by
  cases hL : isLine l
  · simp [segs_nil hL] at h
  · have h1 := h
    rw [segs_len hL] at h1
    refine ⟨l[i], l[i + 1], rfl, by omega, List.getElem?_eq_getElem (by omega), List.getElem?_eq_getElem (by omega), ?_⟩
    simp [segs, hL, List.getElem?_zipWith, List.getElem?_eq_getElem (show i < l.length by omega), List.getElem?_tail, List.getElem?_eq_getElem (show i + 1 < l.length by omega)]
theorem clo_rows {α : Type} {en : α → List AV} (h : ∀ a, ∀ x ∈ en a, Clo x) {l : List α} : ∀ r ∈ l.map en, ∀ x ∈ r, Clo x := fun r hr x hx => by
  obtain ⟨a, _, rfl⟩ := List.mem_map.1 hr
  exact h a x hx
theorem clo_rows_nil : ∀ r ∈ ([] : List (List AV)), ∀ x ∈ r, Clo x := fun r hr => by simp at hr
theorem map_take_succ {α β : Type} {f : α → β} {l : List α} {i : Nat} {x : α} (h : l[i]? = some x) : (l.take (i + 1)).map f = (l.take i).map f ++ [f x] := by rw [take_succ_of h]; simp
/-- What a fold over a list has come to. -/
def accF {α : Type} (f : Int → α → Int) (l : List α) (i : Nat) : Int := (l.take i).foldl f 0
theorem accF_succ {α : Type} {f : Int → α → Int} {l : List α} {i : Nat} {x : α} (h : l[i]? = some x) : accF f l (i + 1) = f (accF f l i) x := by simp [accF, take_succ_of h]
theorem accF_all {α : Type} {f : Int → α → Int} {l : List α} : accF f l l.length = l.foldl f 0 := by simp [accF]
abbrev stepS (n : Int) (s : TSegment) : Int := wadd n (stepsB s.a.x s.a.y s.b.x s.b.y)
def lineSteps (l : List TPoint) : Int := (segs l).foldl stepS 0
abbrev stepT (n : Int) (x : TFeature) : Int := if x.kind == 2 then wadd n (lineSteps x.points) else n
def totSteps (l : List TFeature) : Int := l.foldl stepT 0

set_option maxRecDepth 100000 in
set_option maxHeartbeats 2000000 in
theorem inr_v (a b c : Int) : VCalls Try.prog 76 [I a, I b, I c] (fun r M => r = B (inr a b c) ∧ M = []) := by
  refine VCalls.body Try.func76 rfl 12 rfl (fun E => ?_)
  simp only [List.reduceReplicate, List.cons_append, List.nil_append]
  repeat' ((first
    | ((with_reducible show OpA _ _ _ _ _ _); first
      | refine OpA.q TT_ok (by rfl) ?_
      | (refine OpA.quiet (QOp.pickT (by rfl) (by rfl) ?_ (by rfl)) ?_; focus (first | (with_reducible rfl) | (with_reducible_and_instances assumption) | (simp only [Bool.not_eq_true', Bool.not_eq_false']; with_reducible_and_instances assumption)))
      | (refine OpA.quiet (QOp.pickF (by rfl) (by rfl) ?_ (by rfl)) ?_; focus (first | (with_reducible rfl) | (with_reducible_and_instances assumption) | (simp only [Bool.not_eq_true', Bool.not_eq_false']; with_reducible_and_instances assumption)))
      | refine OpA.quiet (QOp.pickAnd (by rfl) (by rfl) (by rfl) (by rfl) (by rfl)) ?_
      | refine OpA.quiet (QOp.pickOr (by rfl) (by rfl) (by rfl) (by rfl) (by rfl)) ?_)
    | ((with_reducible show AL _ _ _ _ _ _ _); first
      | refine AL.q TT_ok rfl (by rfl) ?_
      | refine AL.step rfl ?_
      | refine AL.guardU (by rfl) (by rfl) (by rfl) (by rfl) ?_
      | refine AL.gF (by rfl) (by rfl) (by rfl) (by rfl) (by first | rfl | assumption) ?_
      | refine AL.gT (by rfl) (by rfl) (by rfl) (by rfl) (by first | rfl | assumption) ?_
      | refine AL.guardW (by rfl) (by rfl) (by rfl) (by rfl) (fun h => by (try rw [h]); first | exact OpA.quietW (QOp.quietA TT_ok (by rfl)) | exact OpA.quietW (QOp.pickAnd (by rfl) (by rfl) (by rfl) (by rfl) (by rfl)) | exact OpA.quietW (QOp.pickOr (by rfl) (by rfl) (by rfl) (by rfl) (by rfl))) ?_
      | (refine AL.guardT (by rfl) (by rfl) (by rfl) (by rfl) (fun h => ?_) ?_; rotate_left; focus (intro h; (try simp only [Bool.not_eq_true', Bool.not_eq_false'] at h); first | (cases h; done) | exact clash (by with_reducible_and_instances assumption) h | exact clash h (by with_reducible_and_instances assumption) | exact absurd h (by decide) | (refine absurd h ?_; simp; done)))
      | (refine AL.guardT (by rfl) (by rfl) (by rfl) (by rfl) ?_ (fun h => ?_); focus (intro h; (try simp only [Bool.not_eq_true', Bool.not_eq_false'] at h); first | (cases h; done) | exact clash (by with_reducible_and_instances assumption) h | exact clash h (by with_reducible_and_instances assumption) | exact absurd h (by decide) | (refine absurd h ?_; simp; done)))
      | (refine AL.guardT (by rfl) (by rfl) (by rfl) (by rfl) ?_ ?_ <;> (intro h; try simp only [Bool.not_eq_true', Bool.not_eq_false'] at h))
      | (refine AL.guardF (by rfl) (by rfl) (by rfl) (by rfl) (fun h => ?_) ?_; rotate_left; focus (intro h; (try simp only [Bool.not_eq_true', Bool.not_eq_false'] at h); first | (cases h; done) | exact clash (by with_reducible_and_instances assumption) h | exact clash h (by with_reducible_and_instances assumption) | exact absurd h (by decide) | (refine absurd h ?_; simp; done)))
      | (refine AL.guardF (by rfl) (by rfl) (by rfl) (by rfl) ?_ (fun h => ?_); focus (intro h; (try simp only [Bool.not_eq_true', Bool.not_eq_false'] at h); first | (cases h; done) | exact clash (by with_reducible_and_instances assumption) h | exact clash h (by with_reducible_and_instances assumption) | exact absurd h (by decide) | (refine absurd h ?_; simp; done)))
      | (refine AL.guardF (by rfl) (by rfl) (by rfl) (by rfl) ?_ ?_ <;> (intro h; try simp only [Bool.not_eq_true', Bool.not_eq_false'] at h))
      | refine AL.nil ?_)
    | ((with_reducible show AW _ _ _ _ _ _); first
      | refine AW.seq ?_
      | refine AW.region ?_
      | refine AW.skip ?_
      | refine AW.ret ?_)
    | with_reducible refine (if_pos rfl).mpr ?_
    | with_reducible refine (if_neg (by decide)).mpr ?_) <;> (try dsimp only [dput, List.set, cond_true, cond_false, Nat.zero_add, Nat.add_zero, Nat.reduceAdd, splice, List.take, List.drop, List.length, List.nil_append, List.cons_append, List.append, TPoint.en, TSegment.en, TBox.en, TFeature.en, TMeet.en, TPlace.en, TCover.en, TLabel.en, TPiece.en, TLevel.en, TChart.en, TReason.en, TEdit.en, TEntry.en, TEdition.en, TListing.en, TAtlas.en, TEvent.en, TWindow.en]))
  all_goals exact Fin.one rfl (RV.tmp (by rfl)) (clo_c _) ⟨by first | rfl | (simp_all [inr]; done) | (simp only [inr]; split <;> simp_all <;> omega), rfl⟩

set_option maxRecDepth 100000 in
set_option maxHeartbeats 2000000 in
theorem inr_s (a b c : Int) : VCalls Try.prog 75 [I a, I b, I c] (fun r M => r = B (inr a b c) ∧ M = []) := by
  refine VCalls.body Try.func75 rfl 12 rfl (fun E => ?_)
  simp only [List.reduceReplicate, List.cons_append, List.nil_append]
  repeat' ((first
    | ((with_reducible show OpA _ _ _ _ _ _); first
      | refine OpA.q TT_ok (by rfl) ?_
      | (refine OpA.quiet (QOp.pickT (by rfl) (by rfl) ?_ (by rfl)) ?_; focus (first | (with_reducible rfl) | (with_reducible_and_instances assumption) | (simp only [Bool.not_eq_true', Bool.not_eq_false']; with_reducible_and_instances assumption)))
      | (refine OpA.quiet (QOp.pickF (by rfl) (by rfl) ?_ (by rfl)) ?_; focus (first | (with_reducible rfl) | (with_reducible_and_instances assumption) | (simp only [Bool.not_eq_true', Bool.not_eq_false']; with_reducible_and_instances assumption)))
      | refine OpA.quiet (QOp.pickAnd (by rfl) (by rfl) (by rfl) (by rfl) (by rfl)) ?_
      | refine OpA.quiet (QOp.pickOr (by rfl) (by rfl) (by rfl) (by rfl) (by rfl)) ?_)
    | ((with_reducible show AL _ _ _ _ _ _ _); first
      | refine AL.q TT_ok rfl (by rfl) ?_
      | refine AL.step rfl ?_
      | refine AL.guardU (by rfl) (by rfl) (by rfl) (by rfl) ?_
      | refine AL.gF (by rfl) (by rfl) (by rfl) (by rfl) (by first | rfl | assumption) ?_
      | refine AL.gT (by rfl) (by rfl) (by rfl) (by rfl) (by first | rfl | assumption) ?_
      | refine AL.guardW (by rfl) (by rfl) (by rfl) (by rfl) (fun h => by (try rw [h]); first | exact OpA.quietW (QOp.quietA TT_ok (by rfl)) | exact OpA.quietW (QOp.pickAnd (by rfl) (by rfl) (by rfl) (by rfl) (by rfl)) | exact OpA.quietW (QOp.pickOr (by rfl) (by rfl) (by rfl) (by rfl) (by rfl))) ?_
      | (refine AL.guardT (by rfl) (by rfl) (by rfl) (by rfl) (fun h => ?_) ?_; rotate_left; focus (intro h; (try simp only [Bool.not_eq_true', Bool.not_eq_false'] at h); first | (cases h; done) | exact clash (by with_reducible_and_instances assumption) h | exact clash h (by with_reducible_and_instances assumption) | exact absurd h (by decide) | (refine absurd h ?_; simp; done)))
      | (refine AL.guardT (by rfl) (by rfl) (by rfl) (by rfl) ?_ (fun h => ?_); focus (intro h; (try simp only [Bool.not_eq_true', Bool.not_eq_false'] at h); first | (cases h; done) | exact clash (by with_reducible_and_instances assumption) h | exact clash h (by with_reducible_and_instances assumption) | exact absurd h (by decide) | (refine absurd h ?_; simp; done)))
      | (refine AL.guardT (by rfl) (by rfl) (by rfl) (by rfl) ?_ ?_ <;> (intro h; try simp only [Bool.not_eq_true', Bool.not_eq_false'] at h))
      | (refine AL.guardF (by rfl) (by rfl) (by rfl) (by rfl) (fun h => ?_) ?_; rotate_left; focus (intro h; (try simp only [Bool.not_eq_true', Bool.not_eq_false'] at h); first | (cases h; done) | exact clash (by with_reducible_and_instances assumption) h | exact clash h (by with_reducible_and_instances assumption) | exact absurd h (by decide) | (refine absurd h ?_; simp; done)))
      | (refine AL.guardF (by rfl) (by rfl) (by rfl) (by rfl) ?_ (fun h => ?_); focus (intro h; (try simp only [Bool.not_eq_true', Bool.not_eq_false'] at h); first | (cases h; done) | exact clash (by with_reducible_and_instances assumption) h | exact clash h (by with_reducible_and_instances assumption) | exact absurd h (by decide) | (refine absurd h ?_; simp; done)))
      | (refine AL.guardF (by rfl) (by rfl) (by rfl) (by rfl) ?_ ?_ <;> (intro h; try simp only [Bool.not_eq_true', Bool.not_eq_false'] at h))
      | refine AL.nil ?_)
    | ((with_reducible show AW _ _ _ _ _ _); first
      | refine AW.seq ?_
      | refine AW.region ?_
      | refine AW.skip ?_
      | refine AW.ret ?_)
    | with_reducible refine (if_pos rfl).mpr ?_
    | with_reducible refine (if_neg (by decide)).mpr ?_) <;> (try dsimp only [dput, List.set, cond_true, cond_false, Nat.zero_add, Nat.add_zero, Nat.reduceAdd, splice, List.take, List.drop, List.length, List.nil_append, List.cons_append, List.append, TPoint.en, TSegment.en, TBox.en, TFeature.en, TMeet.en, TPlace.en, TCover.en, TLabel.en, TPiece.en, TLevel.en, TChart.en, TReason.en, TEdit.en, TEntry.en, TEdition.en, TListing.en, TAtlas.en, TEvent.en, TWindow.en]))
  all_goals exact Fin.one rfl (RV.tmp (by rfl)) (clo_c _) ⟨by first | rfl | (simp_all [inr]; done) | (simp only [inr]; split <;> simp_all <;> omega), rfl⟩

set_option maxRecDepth 100000 in
set_option maxHeartbeats 2000000 in
theorem isp_v (x y : Int) : VCalls Try.prog 110 [.agg [I x, I y]] (fun r M => r = B (isp x y) ∧ M = []) := by
  refine VCalls.body Try.func110 rfl 10 rfl (fun E => ?_)
  simp only [List.reduceReplicate, List.cons_append, List.nil_append]
  repeat' ((first
    | ((with_reducible show OpA _ _ _ _ _ _); first
      | refine OpA.q TT_ok (by rfl) ?_
      | (refine OpA.quiet (QOp.pickT (by rfl) (by rfl) ?_ (by rfl)) ?_; focus (first | (with_reducible rfl) | (with_reducible_and_instances assumption) | (simp only [Bool.not_eq_true', Bool.not_eq_false']; with_reducible_and_instances assumption)))
      | (refine OpA.quiet (QOp.pickF (by rfl) (by rfl) ?_ (by rfl)) ?_; focus (first | (with_reducible rfl) | (with_reducible_and_instances assumption) | (simp only [Bool.not_eq_true', Bool.not_eq_false']; with_reducible_and_instances assumption)))
      | refine OpA.box (by rfl) (by rfl) (by rfl) ?_
      | refine OpA.pcall (by rfl) Try.func76 rfl rfl (by rfl) (by first | exact clo_all (by rfl) | repeat' (first | exact clo_nil | refine clo_cons ?_ ?_ | exact clo_of (by rfl) | exact clo_fn _ | assumption)) (inr_v _ _ _) (by first | exact clo_of (by rfl) | assumption) ?_
      | refine OpA.quiet (QOp.pickAnd (by rfl) (by rfl) (by rfl) (by rfl) (by rfl)) ?_
      | refine OpA.quiet (QOp.pickOr (by rfl) (by rfl) (by rfl) (by rfl) (by rfl)) ?_)
    | ((with_reducible show AL _ _ _ _ _ _ _); first
      | refine AL.q TT_ok rfl (by rfl) ?_
      | refine AL.step rfl ?_
      | refine AL.guardU (by rfl) (by rfl) (by rfl) (by rfl) ?_
      | refine AL.gF (by rfl) (by rfl) (by rfl) (by rfl) (by first | rfl | assumption) ?_
      | refine AL.gT (by rfl) (by rfl) (by rfl) (by rfl) (by first | rfl | assumption) ?_
      | refine AL.guardW (by rfl) (by rfl) (by rfl) (by rfl) (fun h => by (try rw [h]); first | exact OpA.quietW (QOp.quietA TT_ok (by rfl)) | exact OpA.pcall (by rfl) Try.func76 rfl rfl (by rfl) (by first | exact clo_all (by rfl) | repeat' (first | exact clo_nil | refine clo_cons ?_ ?_ | exact clo_of (by rfl) | exact clo_fn _ | assumption)) (inr_v _ _ _) (by first | exact clo_of (by rfl) | assumption) ⟨by rfl, rfl⟩ | exact OpA.quietW (QOp.pickAnd (by rfl) (by rfl) (by rfl) (by rfl) (by rfl)) | exact OpA.quietW (QOp.pickOr (by rfl) (by rfl) (by rfl) (by rfl) (by rfl))) ?_
      | (refine AL.guardT (by rfl) (by rfl) (by rfl) (by rfl) (fun h => ?_) ?_; rotate_left; focus (intro h; (try simp only [Bool.not_eq_true', Bool.not_eq_false'] at h); first | (cases h; done) | exact clash (by with_reducible_and_instances assumption) h | exact clash h (by with_reducible_and_instances assumption) | exact absurd h (by decide) | (refine absurd h ?_; simp; done)))
      | (refine AL.guardT (by rfl) (by rfl) (by rfl) (by rfl) ?_ (fun h => ?_); focus (intro h; (try simp only [Bool.not_eq_true', Bool.not_eq_false'] at h); first | (cases h; done) | exact clash (by with_reducible_and_instances assumption) h | exact clash h (by with_reducible_and_instances assumption) | exact absurd h (by decide) | (refine absurd h ?_; simp; done)))
      | (refine AL.guardT (by rfl) (by rfl) (by rfl) (by rfl) ?_ ?_ <;> (intro h; try simp only [Bool.not_eq_true', Bool.not_eq_false'] at h))
      | (refine AL.guardF (by rfl) (by rfl) (by rfl) (by rfl) (fun h => ?_) ?_; rotate_left; focus (intro h; (try simp only [Bool.not_eq_true', Bool.not_eq_false'] at h); first | (cases h; done) | exact clash (by with_reducible_and_instances assumption) h | exact clash h (by with_reducible_and_instances assumption) | exact absurd h (by decide) | (refine absurd h ?_; simp; done)))
      | (refine AL.guardF (by rfl) (by rfl) (by rfl) (by rfl) ?_ (fun h => ?_); focus (intro h; (try simp only [Bool.not_eq_true', Bool.not_eq_false'] at h); first | (cases h; done) | exact clash (by with_reducible_and_instances assumption) h | exact clash h (by with_reducible_and_instances assumption) | exact absurd h (by decide) | (refine absurd h ?_; simp; done)))
      | (refine AL.guardF (by rfl) (by rfl) (by rfl) (by rfl) ?_ ?_ <;> (intro h; try simp only [Bool.not_eq_true', Bool.not_eq_false'] at h))
      | refine AL.nil ?_)
    | ((with_reducible show AW _ _ _ _ _ _); first
      | refine AW.seq ?_
      | refine AW.region ?_
      | refine AW.skip ?_
      | refine AW.ret ?_)
    | with_reducible refine (if_pos rfl).mpr ?_
    | with_reducible refine (if_neg (by decide)).mpr ?_) <;> (try dsimp only [dput, List.set, cond_true, cond_false, Nat.zero_add, Nat.add_zero, Nat.reduceAdd, splice, List.take, List.drop, List.length, List.nil_append, List.cons_append, List.append, TPoint.en, TSegment.en, TBox.en, TFeature.en, TMeet.en, TPlace.en, TCover.en, TLabel.en, TPiece.en, TLevel.en, TChart.en, TReason.en, TEdit.en, TEntry.en, TEdition.en, TListing.en, TAtlas.en, TEvent.en, TWindow.en]))
  all_goals exact Fin.one rfl (RV.tmp (by rfl)) (clo_c _) ⟨by first | rfl | (simp_all [isp]; done) | (simp only [isp]; split <;> simp_all <;> omega), rfl⟩

theorem isp_v_t (x y : Int) (h : isp x y = true) : VCalls Try.prog 110 [.agg [I x, I y]] (fun r M => r = B true ∧ M = []) := h ▸ isp_v x y
theorem isp_v_f (x y : Int) (h : isp x y = false) : VCalls Try.prog 110 [.agg [I x, I y]] (fun r M => r = B false ∧ M = []) := h ▸ isp_v x y
set_option maxRecDepth 100000 in
set_option maxHeartbeats 2000000 in
theorem isp_s (x y : Int) : VCalls Try.prog 107 [.agg [I x, I y]] (fun r M => r = B (isp x y) ∧ M = []) := by
  refine VCalls.body Try.func107 rfl 10 rfl (fun E => ?_)
  simp only [List.reduceReplicate, List.cons_append, List.nil_append]
  repeat' ((first
    | ((with_reducible show OpA _ _ _ _ _ _); first
      | refine OpA.q TT_ok (by rfl) ?_
      | (refine OpA.quiet (QOp.pickT (by rfl) (by rfl) ?_ (by rfl)) ?_; focus (first | (with_reducible rfl) | (with_reducible_and_instances assumption) | (simp only [Bool.not_eq_true', Bool.not_eq_false']; with_reducible_and_instances assumption)))
      | (refine OpA.quiet (QOp.pickF (by rfl) (by rfl) ?_ (by rfl)) ?_; focus (first | (with_reducible rfl) | (with_reducible_and_instances assumption) | (simp only [Bool.not_eq_true', Bool.not_eq_false']; with_reducible_and_instances assumption)))
      | refine OpA.box (by rfl) (by rfl) (by rfl) ?_
      | refine OpA.pcall (by rfl) Try.func75 rfl rfl (by rfl) (by first | exact clo_all (by rfl) | repeat' (first | exact clo_nil | refine clo_cons ?_ ?_ | exact clo_of (by rfl) | exact clo_fn _ | assumption)) (inr_s _ _ _) (by first | exact clo_of (by rfl) | assumption) ?_
      | refine OpA.quiet (QOp.pickAnd (by rfl) (by rfl) (by rfl) (by rfl) (by rfl)) ?_
      | refine OpA.quiet (QOp.pickOr (by rfl) (by rfl) (by rfl) (by rfl) (by rfl)) ?_)
    | ((with_reducible show AL _ _ _ _ _ _ _); first
      | refine AL.q TT_ok rfl (by rfl) ?_
      | refine AL.step rfl ?_
      | refine AL.guardU (by rfl) (by rfl) (by rfl) (by rfl) ?_
      | refine AL.gF (by rfl) (by rfl) (by rfl) (by rfl) (by first | rfl | assumption) ?_
      | refine AL.gT (by rfl) (by rfl) (by rfl) (by rfl) (by first | rfl | assumption) ?_
      | refine AL.guardW (by rfl) (by rfl) (by rfl) (by rfl) (fun h => by (try rw [h]); first | exact OpA.quietW (QOp.quietA TT_ok (by rfl)) | exact OpA.pcall (by rfl) Try.func75 rfl rfl (by rfl) (by first | exact clo_all (by rfl) | repeat' (first | exact clo_nil | refine clo_cons ?_ ?_ | exact clo_of (by rfl) | exact clo_fn _ | assumption)) (inr_s _ _ _) (by first | exact clo_of (by rfl) | assumption) ⟨by rfl, rfl⟩ | exact OpA.quietW (QOp.pickAnd (by rfl) (by rfl) (by rfl) (by rfl) (by rfl)) | exact OpA.quietW (QOp.pickOr (by rfl) (by rfl) (by rfl) (by rfl) (by rfl))) ?_
      | (refine AL.guardT (by rfl) (by rfl) (by rfl) (by rfl) (fun h => ?_) ?_; rotate_left; focus (intro h; (try simp only [Bool.not_eq_true', Bool.not_eq_false'] at h); first | (cases h; done) | exact clash (by with_reducible_and_instances assumption) h | exact clash h (by with_reducible_and_instances assumption) | exact absurd h (by decide) | (refine absurd h ?_; simp; done)))
      | (refine AL.guardT (by rfl) (by rfl) (by rfl) (by rfl) ?_ (fun h => ?_); focus (intro h; (try simp only [Bool.not_eq_true', Bool.not_eq_false'] at h); first | (cases h; done) | exact clash (by with_reducible_and_instances assumption) h | exact clash h (by with_reducible_and_instances assumption) | exact absurd h (by decide) | (refine absurd h ?_; simp; done)))
      | (refine AL.guardT (by rfl) (by rfl) (by rfl) (by rfl) ?_ ?_ <;> (intro h; try simp only [Bool.not_eq_true', Bool.not_eq_false'] at h))
      | (refine AL.guardF (by rfl) (by rfl) (by rfl) (by rfl) (fun h => ?_) ?_; rotate_left; focus (intro h; (try simp only [Bool.not_eq_true', Bool.not_eq_false'] at h); first | (cases h; done) | exact clash (by with_reducible_and_instances assumption) h | exact clash h (by with_reducible_and_instances assumption) | exact absurd h (by decide) | (refine absurd h ?_; simp; done)))
      | (refine AL.guardF (by rfl) (by rfl) (by rfl) (by rfl) ?_ (fun h => ?_); focus (intro h; (try simp only [Bool.not_eq_true', Bool.not_eq_false'] at h); first | (cases h; done) | exact clash (by with_reducible_and_instances assumption) h | exact clash h (by with_reducible_and_instances assumption) | exact absurd h (by decide) | (refine absurd h ?_; simp; done)))
      | (refine AL.guardF (by rfl) (by rfl) (by rfl) (by rfl) ?_ ?_ <;> (intro h; try simp only [Bool.not_eq_true', Bool.not_eq_false'] at h))
      | refine AL.nil ?_)
    | ((with_reducible show AW _ _ _ _ _ _); first
      | refine AW.seq ?_
      | refine AW.region ?_
      | refine AW.skip ?_
      | refine AW.ret ?_)
    | with_reducible refine (if_pos rfl).mpr ?_
    | with_reducible refine (if_neg (by decide)).mpr ?_) <;> (try dsimp only [dput, List.set, cond_true, cond_false, Nat.zero_add, Nat.add_zero, Nat.reduceAdd, splice, List.take, List.drop, List.length, List.nil_append, List.cons_append, List.append, TPoint.en, TSegment.en, TBox.en, TFeature.en, TMeet.en, TPlace.en, TCover.en, TLabel.en, TPiece.en, TLevel.en, TChart.en, TReason.en, TEdit.en, TEntry.en, TEdition.en, TListing.en, TAtlas.en, TEvent.en, TWindow.en]))
  all_goals exact Fin.one rfl (RV.tmp (by rfl)) (clo_c _) ⟨by first | rfl | (simp_all [isp]; done) | (simp only [isp]; split <;> simp_all <;> omega), rfl⟩

theorem isp_s_t (x y : Int) (h : isp x y = true) : VCalls Try.prog 107 [.agg [I x, I y]] (fun r M => r = B true ∧ M = []) := h ▸ isp_s x y
theorem isp_s_f (x y : Int) (h : isp x y = false) : VCalls Try.prog 107 [.agg [I x, I y]] (fun r M => r = B false ∧ M = []) := h ▸ isp_s x y
set_option maxRecDepth 100000 in
set_option maxHeartbeats 2000000 in
theorem isLine_s (l : List TPoint) (hl : l.length ≤ 1048576) : VCalls Try.prog 106 [.ro 2 (l.map TPoint.en)] (fun r M => r = B (isLine l) ∧ M = []) := by
  refine VCalls.bodyE Try.func106 rfl 34 rfl (fun E hE => ?_)
  simp only [List.reduceReplicate, List.cons_append, List.nil_append]
  repeat' ((first
    | ((with_reducible show OpA _ _ _ _ _ _); first
      | refine OpA.q TT_ok (by rfl) ?_
      | (refine OpA.quiet (QOp.pickT (by rfl) (by rfl) ?_ (by rfl)) ?_; focus (first | (with_reducible rfl) | (with_reducible_and_instances assumption) | (simp only [Bool.not_eq_true', Bool.not_eq_false']; with_reducible_and_instances assumption)))
      | (refine OpA.quiet (QOp.pickF (by rfl) (by rfl) ?_ (by rfl)) ?_; focus (first | (with_reducible rfl) | (with_reducible_and_instances assumption) | (simp only [Bool.not_eq_true', Bool.not_eq_false']; with_reducible_and_instances assumption)))
      | refine OpA.quiet (QOp.atk_ro (by rfl) (by rfl) (by rfl) (TT_ok.sl _ _ (by rfl)) (Nat.le_of_ble_eq_true (by rfl)) (by first | assumption | omega) (by assumption)) ?_
      | refine OpA.quiet (QOp.ld1_ro (by rfl) (by rfl) (by assumption) (TT_ok.ld _ _ (by rfl)) (by rfl)) ?_
      | refine OpA.quiet (QOp.ldr_ro (by rfl) (by rfl) (by assumption) (TT_ok.ld _ _ (by rfl)) (Nat.le_of_ble_eq_true (by rfl))) ?_
      | refine OpA.quiet (QOp.at_own (by rfl) (TT_ok.sl _ _ (by rfl)) (by rfl) (by rfl) (by rfl) (by rfl) (by rfl) (by rfl) (by first | assumption | omega | decide) (by first | assumption | omega | decide)) ?_
      | refine OpA.quiet (QOp.len_own (by rfl) (TT_ok.sl _ _ (by rfl)) (by rfl) (by rfl) (by rfl) (by rfl)) ?_
      | refine OpA.quiet (QOp.sEq (by rfl) (by rfl) (by rfl) (by first | exact flk26.1 | exact flk109.1) (by rfl) (by rfl) (by rfl) (by rfl) (by rfl) (by rfl) (by rfl) (by rfl)) ?_
      | (refine OpA.quiet (QOp.cat (by rfl) (by rfl) (by rfl) (by first | assumption | (simp only [ByteArray.size_append, bs_size] at *; omega))) ?_)
      | refine OpA.pcall (by rfl) Try.func75 rfl rfl (by rfl) (by first | exact clo_all (by rfl) | repeat' (first | exact clo_nil | refine clo_cons ?_ ?_ | exact clo_of (by rfl) | exact clo_fn _ | assumption)) (inr_s _ _ _) (by first | exact clo_of (by rfl) | assumption) ?_
      | refine OpA.pcall (by rfl) Try.func107 rfl rfl (by rfl) (by first | exact clo_all (by rfl) | repeat' (first | exact clo_nil | refine clo_cons ?_ ?_ | exact clo_of (by rfl) | exact clo_fn _ | assumption)) (by first | exact isp_s_t _ _ (by assumption) | exact isp_s_f _ _ (by assumption) | exact isp_s _ _) (by first | exact clo_of (by rfl) | assumption) ?_
      | refine OpA.quiet (QOp.pickAnd (by rfl) (by rfl) (by rfl) (by rfl) (by rfl)) ?_
      | refine OpA.quiet (QOp.pickOr (by rfl) (by rfl) (by rfl) (by rfl) (by rfl)) ?_)
    | ((with_reducible show AL _ _ _ _ _ _ _); first
      | refine AL.q TT_ok rfl (by rfl) ?_
      | refine AL.step rfl ?_
      | refine AL.guardU (by rfl) (by rfl) (by rfl) (by rfl) ?_
      | refine AL.gF (by rfl) (by rfl) (by rfl) (by rfl) (by first | rfl | assumption) ?_
      | refine AL.gT (by rfl) (by rfl) (by rfl) (by rfl) (by first | rfl | assumption) ?_
      | refine AL.guardW (by rfl) (by rfl) (by rfl) (by rfl) (fun h => by (try rw [h]); first | exact OpA.quietW (QOp.quietA TT_ok (by rfl)) | exact OpA.pcall (by rfl) Try.func75 rfl rfl (by rfl) (by first | exact clo_all (by rfl) | repeat' (first | exact clo_nil | refine clo_cons ?_ ?_ | exact clo_of (by rfl) | exact clo_fn _ | assumption)) (inr_s _ _ _) (by first | exact clo_of (by rfl) | assumption) ⟨by rfl, rfl⟩ | exact OpA.pcall (by rfl) Try.func107 rfl rfl (by rfl) (by first | exact clo_all (by rfl) | repeat' (first | exact clo_nil | refine clo_cons ?_ ?_ | exact clo_of (by rfl) | exact clo_fn _ | assumption)) (by first | exact isp_s_t _ _ (by assumption) | exact isp_s_f _ _ (by assumption) | exact isp_s _ _) (by first | exact clo_of (by rfl) | assumption) ⟨by rfl, rfl⟩ | exact OpA.quietW (QOp.atk_ro (by rfl) (by rfl) (by rfl) (TT_ok.sl _ _ (by rfl)) (Nat.le_of_ble_eq_true (by rfl)) (by first | assumption | omega) (by assumption)) | exact OpA.quietW (QOp.ld1_ro (by rfl) (by rfl) (by assumption) (TT_ok.ld _ _ (by rfl)) (by rfl)) | exact OpA.quietW (QOp.ldr_ro (by rfl) (by rfl) (by assumption) (TT_ok.ld _ _ (by rfl)) (Nat.le_of_ble_eq_true (by rfl))) | exact OpA.quietW (QOp.at_own (by rfl) (TT_ok.sl _ _ (by rfl)) (by rfl) (by rfl) (by rfl) (by rfl) (by rfl) (by rfl) (by first | assumption | omega | decide) (by first | assumption | omega | decide)) | exact OpA.quietW (QOp.len_own (by rfl) (TT_ok.sl _ _ (by rfl)) (by rfl) (by rfl) (by rfl) (by rfl)) | exact OpA.quietW (QOp.sEq (by rfl) (by rfl) (by rfl) (by first | exact flk26.1 | exact flk109.1) (by rfl) (by rfl) (by rfl) (by rfl) (by rfl) (by rfl) (by rfl) (by rfl)) | exact OpA.quietW (QOp.cat (by rfl) (by rfl) (by rfl) (by first | assumption | (simp only [ByteArray.size_append, bs_size] at *; omega))) | exact OpA.quietW (QOp.pickAnd (by rfl) (by rfl) (by rfl) (by rfl) (by rfl)) | exact OpA.quietW (QOp.pickOr (by rfl) (by rfl) (by rfl) (by rfl) (by rfl))) ?_
      | (refine AL.guardT (by rfl) (by rfl) (by rfl) (by rfl) (fun h => ?_) ?_; rotate_left; focus (intro h; (try simp only [Bool.not_eq_true', Bool.not_eq_false'] at h); first | (cases h; done) | exact clash (by with_reducible_and_instances assumption) h | exact clash h (by with_reducible_and_instances assumption) | exact absurd h (by decide) | (refine absurd h ?_; simp; done)))
      | (refine AL.guardT (by rfl) (by rfl) (by rfl) (by rfl) ?_ (fun h => ?_); focus (intro h; (try simp only [Bool.not_eq_true', Bool.not_eq_false'] at h); first | (cases h; done) | exact clash (by with_reducible_and_instances assumption) h | exact clash h (by with_reducible_and_instances assumption) | exact absurd h (by decide) | (refine absurd h ?_; simp; done)))
      | (refine AL.guardT (by rfl) (by rfl) (by rfl) (by rfl) ?_ ?_ <;> (intro h; try simp only [Bool.not_eq_true', Bool.not_eq_false'] at h))
      | (refine AL.guardF (by rfl) (by rfl) (by rfl) (by rfl) (fun h => ?_) ?_; rotate_left; focus (intro h; (try simp only [Bool.not_eq_true', Bool.not_eq_false'] at h); first | (cases h; done) | exact clash (by with_reducible_and_instances assumption) h | exact clash h (by with_reducible_and_instances assumption) | exact absurd h (by decide) | (refine absurd h ?_; simp; done)))
      | (refine AL.guardF (by rfl) (by rfl) (by rfl) (by rfl) ?_ (fun h => ?_); focus (intro h; (try simp only [Bool.not_eq_true', Bool.not_eq_false'] at h); first | (cases h; done) | exact clash (by with_reducible_and_instances assumption) h | exact clash h (by with_reducible_and_instances assumption) | exact absurd h (by decide) | (refine absurd h ?_; simp; done)))
      | (refine AL.guardF (by rfl) (by rfl) (by rfl) (by rfl) ?_ ?_ <;> (intro h; try simp only [Bool.not_eq_true', Bool.not_eq_false'] at h))
      | refine AL.nil ?_)
    | ((with_reducible show DL _ _ _ _ _ _ _); first
      | refine DL.q TT_ok rfl (by rfl) ?_
      | refine DL.p rfl (POp.quiet (QOp.atk_ro (by rfl) (by rfl) (by rfl) (TT_ok.sl _ _ (by rfl)) (Nat.le_of_ble_eq_true (by rfl)) (by first | assumption | omega) (by assumption))) ?_
      | refine DL.p rfl (POp.quiet (QOp.ld1_ro (by rfl) (by rfl) (by assumption) (TT_ok.ld _ _ (by rfl)) (by rfl))) ?_
      | refine DL.p rfl (POp.quiet (QOp.ldr_ro (by rfl) (by rfl) (by assumption) (TT_ok.ld _ _ (by rfl)) (Nat.le_of_ble_eq_true (by rfl)))) ?_
      | refine DL.p rfl (POp.quiet (QOp.at_own (by rfl) (TT_ok.sl _ _ (by rfl)) (by rfl) (by rfl) (by rfl) (by rfl) (by rfl) (by rfl) (by first | assumption | omega | decide) (by first | assumption | omega | decide))) ?_
      | refine DL.p rfl (POp.quiet (QOp.len_own (by rfl) (TT_ok.sl _ _ (by rfl)) (by rfl) (by rfl) (by rfl) (by rfl))) ?_
      | refine DL.p rfl (POp.quiet (QOp.sEq (by rfl) (by rfl) (by rfl) (by first | exact flk26.1 | exact flk109.1) (by rfl) (by rfl) (by rfl) (by rfl) (by rfl) (by rfl) (by rfl) (by rfl))) ?_
      | (refine DL.p rfl (POp.quiet (QOp.cat (by rfl) (by rfl) (by rfl) (by first | assumption | (simp only [ByteArray.size_append, bs_size] at *; omega)))) ?_)
      | refine DL.p rfl (POp.quiet (QOp.pickAnd (by rfl) (by rfl) (by rfl) (by rfl) (by rfl))) ?_
      | refine DL.p rfl (POp.quiet (QOp.pickOr (by rfl) (by rfl) (by rfl) (by rfl) (by rfl))) ?_
      | refine DL.p rfl (POp.quiet (QOp.pickT (by rfl) (by rfl) (by with_reducible_and_instances assumption) (by rfl))) ?_
      | refine DL.p rfl (POp.quiet (QOp.pickF (by rfl) (by rfl) (by with_reducible_and_instances assumption) (by rfl))) ?_
      | refine DL.p rfl (POp.pcall (by rfl) Try.func75 rfl rfl (by rfl) (by first | exact clo_all (by rfl) | repeat' (first | exact clo_nil | refine clo_cons ?_ ?_ | exact clo_of (by rfl) | exact clo_fn _ | assumption)) (inr_s _ _ _) (by first | exact clo_of (by rfl) | assumption)) ?_
      | refine DL.p rfl (POp.pcall (by rfl) Try.func107 rfl rfl (by rfl) (by first | exact clo_all (by rfl) | repeat' (first | exact clo_nil | refine clo_cons ?_ ?_ | exact clo_of (by rfl) | exact clo_fn _ | assumption)) (by first | exact isp_s_t _ _ (by assumption) | exact isp_s_f _ _ (by assumption) | exact isp_s _ _) (by first | exact clo_of (by rfl) | assumption)) ?_
      | refine DL.gU (by rfl) (by rfl) (by rfl) (by rfl) ?_
      | refine DL.gF (by rfl) (by rfl) (by rfl) (by rfl) (by first | rfl | assumption) ?_
      | refine DL.gT (by rfl) (by rfl) (by rfl) (by rfl) (by first | rfl | assumption) (POp.q TT_ok (by rfl)) ?_
      | refine DL.gT (by rfl) (by rfl) (by rfl) (by rfl) (by first | rfl | assumption) (POp.quiet (QOp.atk_ro (by rfl) (by rfl) (by rfl) (TT_ok.sl _ _ (by rfl)) (Nat.le_of_ble_eq_true (by rfl)) (by first | assumption | omega) (by assumption))) ?_
      | refine DL.gT (by rfl) (by rfl) (by rfl) (by rfl) (by first | rfl | assumption) (POp.quiet (QOp.ld1_ro (by rfl) (by rfl) (by assumption) (TT_ok.ld _ _ (by rfl)) (by rfl))) ?_
      | refine DL.gT (by rfl) (by rfl) (by rfl) (by rfl) (by first | rfl | assumption) (POp.quiet (QOp.ldr_ro (by rfl) (by rfl) (by assumption) (TT_ok.ld _ _ (by rfl)) (Nat.le_of_ble_eq_true (by rfl)))) ?_
      | refine DL.gT (by rfl) (by rfl) (by rfl) (by rfl) (by first | rfl | assumption) (POp.quiet (QOp.at_own (by rfl) (TT_ok.sl _ _ (by rfl)) (by rfl) (by rfl) (by rfl) (by rfl) (by rfl) (by rfl) (by first | assumption | omega | decide) (by first | assumption | omega | decide))) ?_
      | refine DL.gT (by rfl) (by rfl) (by rfl) (by rfl) (by first | rfl | assumption) (POp.quiet (QOp.len_own (by rfl) (TT_ok.sl _ _ (by rfl)) (by rfl) (by rfl) (by rfl) (by rfl))) ?_
      | refine DL.gT (by rfl) (by rfl) (by rfl) (by rfl) (by first | rfl | assumption) (POp.quiet (QOp.sEq (by rfl) (by rfl) (by rfl) (by first | exact flk26.1 | exact flk109.1) (by rfl) (by rfl) (by rfl) (by rfl) (by rfl) (by rfl) (by rfl) (by rfl))) ?_
      | (refine DL.gT (by rfl) (by rfl) (by rfl) (by rfl) (by first | rfl | assumption) (POp.quiet (QOp.cat (by rfl) (by rfl) (by rfl) (by first | assumption | (simp only [ByteArray.size_append, bs_size] at *; omega)))) ?_)
      | refine DL.gT (by rfl) (by rfl) (by rfl) (by rfl) (by first | rfl | assumption) (POp.quiet (QOp.pickAnd (by rfl) (by rfl) (by rfl) (by rfl) (by rfl))) ?_
      | refine DL.gT (by rfl) (by rfl) (by rfl) (by rfl) (by first | rfl | assumption) (POp.quiet (QOp.pickOr (by rfl) (by rfl) (by rfl) (by rfl) (by rfl))) ?_
      | refine DL.gT (by rfl) (by rfl) (by rfl) (by rfl) (by first | rfl | assumption) (POp.quiet (QOp.pickT (by rfl) (by rfl) (by with_reducible_and_instances assumption) (by rfl))) ?_
      | refine DL.gT (by rfl) (by rfl) (by rfl) (by rfl) (by first | rfl | assumption) (POp.quiet (QOp.pickF (by rfl) (by rfl) (by with_reducible_and_instances assumption) (by rfl))) ?_
      | refine DL.gT (by rfl) (by rfl) (by rfl) (by rfl) (by first | rfl | assumption) (POp.pcall (by rfl) Try.func75 rfl rfl (by rfl) (by first | exact clo_all (by rfl) | repeat' (first | exact clo_nil | refine clo_cons ?_ ?_ | exact clo_of (by rfl) | exact clo_fn _ | assumption)) (inr_s _ _ _) (by first | exact clo_of (by rfl) | assumption)) ?_
      | refine DL.gT (by rfl) (by rfl) (by rfl) (by rfl) (by first | rfl | assumption) (POp.pcall (by rfl) Try.func107 rfl rfl (by rfl) (by first | exact clo_all (by rfl) | repeat' (first | exact clo_nil | refine clo_cons ?_ ?_ | exact clo_of (by rfl) | exact clo_fn _ | assumption)) (by first | exact isp_s_t _ _ (by assumption) | exact isp_s_f _ _ (by assumption) | exact isp_s _ _) (by first | exact clo_of (by rfl) | assumption)) ?_
      | refine DL.g (by rfl) (by rfl) (by rfl) (by rfl) (fun h => by (try rw [h]); first | exact POp.q TT_ok (by rfl) | exact POp.quiet (QOp.atk_ro (by rfl) (by rfl) (by rfl) (TT_ok.sl _ _ (by rfl)) (Nat.le_of_ble_eq_true (by rfl)) (by first | assumption | omega) (by assumption)) | exact POp.quiet (QOp.ld1_ro (by rfl) (by rfl) (by assumption) (TT_ok.ld _ _ (by rfl)) (by rfl)) | exact POp.quiet (QOp.ldr_ro (by rfl) (by rfl) (by assumption) (TT_ok.ld _ _ (by rfl)) (Nat.le_of_ble_eq_true (by rfl))) | exact POp.quiet (QOp.at_own (by rfl) (TT_ok.sl _ _ (by rfl)) (by rfl) (by rfl) (by rfl) (by rfl) (by rfl) (by rfl) (by first | assumption | omega | decide) (by first | assumption | omega | decide)) | exact POp.quiet (QOp.len_own (by rfl) (TT_ok.sl _ _ (by rfl)) (by rfl) (by rfl) (by rfl) (by rfl)) | exact POp.quiet (QOp.sEq (by rfl) (by rfl) (by rfl) (by first | exact flk26.1 | exact flk109.1) (by rfl) (by rfl) (by rfl) (by rfl) (by rfl) (by rfl) (by rfl) (by rfl)) | exact POp.quiet (QOp.cat (by rfl) (by rfl) (by rfl) (by first | assumption | (simp only [ByteArray.size_append, bs_size] at *; omega))) | exact POp.quiet (QOp.pickAnd (by rfl) (by rfl) (by rfl) (by rfl) (by rfl)) | exact POp.quiet (QOp.pickOr (by rfl) (by rfl) (by rfl) (by rfl) (by rfl)) | exact POp.quiet (QOp.pickT (by rfl) (by rfl) (by with_reducible_and_instances assumption) (by rfl)) | exact POp.quiet (QOp.pickF (by rfl) (by rfl) (by with_reducible_and_instances assumption) (by rfl)) | exact POp.pcall (by rfl) Try.func75 rfl rfl (by rfl) (by first | exact clo_all (by rfl) | repeat' (first | exact clo_nil | refine clo_cons ?_ ?_ | exact clo_of (by rfl) | exact clo_fn _ | assumption)) (inr_s _ _ _) (by first | exact clo_of (by rfl) | assumption) | exact POp.pcall (by rfl) Try.func107 rfl rfl (by rfl) (by first | exact clo_all (by rfl) | repeat' (first | exact clo_nil | refine clo_cons ?_ ?_ | exact clo_of (by rfl) | exact clo_fn _ | assumption)) (by first | exact isp_s_t _ _ (by assumption) | exact isp_s_f _ _ (by assumption) | exact isp_s _ _) (by first | exact clo_of (by rfl) | assumption)) ?_
      | refine DL.nil ?_)
    | ((with_reducible show AW _ _ _ _ _ _); first
      | refine AW.seq ?_
      | refine AW.region ?_
      | refine AW.skip ?_
      | (refine AW.loopD hE (fun i : Nat => [.ro 2 (l.map TPoint.en), .any, .any, I i, .any, .any, .any, .any, .any, .any, .any, .any, .any, .any, .any, .any, .any, .any, .any, .any, .any, .any, .any, .any, .any, .any, .any, .any, .any, .any, .any, .any, .any, .any, .any]) (fun i => []) (fun i => l.length - i) (fun i => i ≤ l.length ∧ ptsOk l i = true) 0 (by simp [ptsOk]) ?_ (by first | rfl | (simp [fil_zero]; done)) ?_)
      | refine AW.drawn (id := 4) 19 (by kernel_rfl) (by kernel_rfl) (by rfl) ?_
      | (refine AW.cond (by rfl) (fun h => ?_) ?_; rotate_left; focus (intro h; (try simp only [Bool.not_eq_true', Bool.not_eq_false'] at h); first | (cases h; done) | exact clash (by with_reducible_and_instances assumption) h | exact clash h (by with_reducible_and_instances assumption) | exact absurd h (by decide) | (refine absurd h ?_; simp; done)))
      | (refine AW.cond (by rfl) ?_ (fun h => ?_); focus (intro h; (try simp only [Bool.not_eq_true', Bool.not_eq_false'] at h); first | (cases h; done) | exact clash (by with_reducible_and_instances assumption) h | exact clash h (by with_reducible_and_instances assumption) | exact absurd h (by decide) | (refine absurd h ?_; simp; done)))
      | (refine AW.cond (by rfl) ?_ ?_ <;> (intro h; try simp only [Bool.not_eq_true', Bool.not_eq_false'] at h))
      | refine AW.block ?_
      | refine AW.exit ?_
      | refine AW.ret ?_)
    | with_reducible refine (if_pos rfl).mpr ?_
    | with_reducible refine (if_neg (by decide)).mpr ?_) <;> (try dsimp only [dput, List.set, cond_true, cond_false, Nat.zero_add, Nat.add_zero, Nat.reduceAdd, splice, List.take, List.drop, List.length, List.nil_append, List.cons_append, List.append, TPoint.en, TSegment.en, TBox.en, TFeature.en, TMeet.en, TPlace.en, TCover.en, TLabel.en, TPiece.en, TLevel.en, TChart.en, TReason.en, TEdit.en, TEntry.en, TEdition.en, TListing.en, TAtlas.en, TEvent.en, TWindow.en]))
  · (repeat' (first | exact Wk.nil | refine Wk.any ?_ | (with_reducible refine Wk.same ?_) | refine Wk.of ?_ ?_)) <;> first | rfl | (simp)
  · intro i hi
    have hclo : Clo (.ro 2 (l.map TPoint.en)) := clo_list TPoint.clo_en
    by_cases hlt : i < l.length
    · obtain ⟨x, hx⟩ : ∃ x, l[i]? = some x := ⟨_, List.getElem?_eq_getElem hlt⟩
      have hg := map_get (f := TPoint.en) hx
      have ht := lt_true (f := TPoint.en) hlt
      have hn := next_ix hlt (by omega)
      have hsu := ptsOk_succ l i
      have hpc := ptE_comm x (prevP l i)
      rcases ln_cases hx hl with ⟨hI, hk⟩ | ⟨hI, hz, hk⟩ | ⟨hI, hz, h0, hp, hk⟩
      repeat' ((first
        | ((with_reducible show OpA _ _ _ _ _ _); first
          | refine OpA.q TT_ok (by rfl) ?_
          | (refine OpA.quiet (QOp.pickT (by rfl) (by rfl) ?_ (by rfl)) ?_; focus (first | (with_reducible rfl) | (with_reducible_and_instances assumption) | (simp only [Bool.not_eq_true', Bool.not_eq_false']; with_reducible_and_instances assumption)))
          | (refine OpA.quiet (QOp.pickF (by rfl) (by rfl) ?_ (by rfl)) ?_; focus (first | (with_reducible rfl) | (with_reducible_and_instances assumption) | (simp only [Bool.not_eq_true', Bool.not_eq_false']; with_reducible_and_instances assumption)))
          | refine OpA.quiet (QOp.atk_ro (by rfl) (by rfl) (by rfl) (TT_ok.sl _ _ (by rfl)) (Nat.le_of_ble_eq_true (by rfl)) (by first | assumption | omega) (by assumption)) ?_
          | refine OpA.quiet (QOp.ld1_ro (by rfl) (by rfl) (by assumption) (TT_ok.ld _ _ (by rfl)) (by rfl)) ?_
          | refine OpA.quiet (QOp.ldr_ro (by rfl) (by rfl) (by assumption) (TT_ok.ld _ _ (by rfl)) (Nat.le_of_ble_eq_true (by rfl))) ?_
          | refine OpA.quiet (QOp.at_own (by rfl) (TT_ok.sl _ _ (by rfl)) (by rfl) (by rfl) (by rfl) (by rfl) (by rfl) (by rfl) (by first | assumption | omega | decide) (by first | assumption | omega | decide)) ?_
          | refine OpA.quiet (QOp.len_own (by rfl) (TT_ok.sl _ _ (by rfl)) (by rfl) (by rfl) (by rfl) (by rfl)) ?_
          | refine OpA.quiet (QOp.sEq (by rfl) (by rfl) (by rfl) (by first | exact flk26.1 | exact flk109.1) (by rfl) (by rfl) (by rfl) (by rfl) (by rfl) (by rfl) (by rfl) (by rfl)) ?_
          | (refine OpA.quiet (QOp.cat (by rfl) (by rfl) (by rfl) (by first | assumption | (simp only [ByteArray.size_append, bs_size] at *; omega))) ?_)
          | refine OpA.pcall (by rfl) Try.func75 rfl rfl (by rfl) (by first | exact clo_all (by rfl) | repeat' (first | exact clo_nil | refine clo_cons ?_ ?_ | exact clo_of (by rfl) | exact clo_fn _ | assumption)) (inr_s _ _ _) (by first | exact clo_of (by rfl) | assumption) ?_
          | refine OpA.pcall (by rfl) Try.func107 rfl rfl (by rfl) (by first | exact clo_all (by rfl) | repeat' (first | exact clo_nil | refine clo_cons ?_ ?_ | exact clo_of (by rfl) | exact clo_fn _ | assumption)) (by first | exact isp_s_t _ _ (by assumption) | exact isp_s_f _ _ (by assumption) | exact isp_s _ _) (by first | exact clo_of (by rfl) | assumption) ?_
          | refine OpA.quiet (QOp.pickAnd (by rfl) (by rfl) (by rfl) (by rfl) (by rfl)) ?_
          | refine OpA.quiet (QOp.pickOr (by rfl) (by rfl) (by rfl) (by rfl) (by rfl)) ?_)
        | ((with_reducible show AL _ _ _ _ _ _ _); first
          | refine AL.q TT_ok rfl (by rfl) ?_
          | refine AL.step rfl ?_
          | refine AL.guardU (by rfl) (by rfl) (by rfl) (by rfl) ?_
          | refine AL.gF (by rfl) (by rfl) (by rfl) (by rfl) (by first | rfl | assumption) ?_
          | refine AL.gT (by rfl) (by rfl) (by rfl) (by rfl) (by first | rfl | assumption) ?_
          | refine AL.guardW (by rfl) (by rfl) (by rfl) (by rfl) (fun h => by (try rw [h]); first | exact OpA.quietW (QOp.quietA TT_ok (by rfl)) | exact OpA.pcall (by rfl) Try.func75 rfl rfl (by rfl) (by first | exact clo_all (by rfl) | repeat' (first | exact clo_nil | refine clo_cons ?_ ?_ | exact clo_of (by rfl) | exact clo_fn _ | assumption)) (inr_s _ _ _) (by first | exact clo_of (by rfl) | assumption) ⟨by rfl, rfl⟩ | exact OpA.pcall (by rfl) Try.func107 rfl rfl (by rfl) (by first | exact clo_all (by rfl) | repeat' (first | exact clo_nil | refine clo_cons ?_ ?_ | exact clo_of (by rfl) | exact clo_fn _ | assumption)) (by first | exact isp_s_t _ _ (by assumption) | exact isp_s_f _ _ (by assumption) | exact isp_s _ _) (by first | exact clo_of (by rfl) | assumption) ⟨by rfl, rfl⟩ | exact OpA.quietW (QOp.atk_ro (by rfl) (by rfl) (by rfl) (TT_ok.sl _ _ (by rfl)) (Nat.le_of_ble_eq_true (by rfl)) (by first | assumption | omega) (by assumption)) | exact OpA.quietW (QOp.ld1_ro (by rfl) (by rfl) (by assumption) (TT_ok.ld _ _ (by rfl)) (by rfl)) | exact OpA.quietW (QOp.ldr_ro (by rfl) (by rfl) (by assumption) (TT_ok.ld _ _ (by rfl)) (Nat.le_of_ble_eq_true (by rfl))) | exact OpA.quietW (QOp.at_own (by rfl) (TT_ok.sl _ _ (by rfl)) (by rfl) (by rfl) (by rfl) (by rfl) (by rfl) (by rfl) (by first | assumption | omega | decide) (by first | assumption | omega | decide)) | exact OpA.quietW (QOp.len_own (by rfl) (TT_ok.sl _ _ (by rfl)) (by rfl) (by rfl) (by rfl) (by rfl)) | exact OpA.quietW (QOp.sEq (by rfl) (by rfl) (by rfl) (by first | exact flk26.1 | exact flk109.1) (by rfl) (by rfl) (by rfl) (by rfl) (by rfl) (by rfl) (by rfl) (by rfl)) | exact OpA.quietW (QOp.cat (by rfl) (by rfl) (by rfl) (by first | assumption | (simp only [ByteArray.size_append, bs_size] at *; omega))) | exact OpA.quietW (QOp.pickAnd (by rfl) (by rfl) (by rfl) (by rfl) (by rfl)) | exact OpA.quietW (QOp.pickOr (by rfl) (by rfl) (by rfl) (by rfl) (by rfl))) ?_
          | (refine AL.guardT (by rfl) (by rfl) (by rfl) (by rfl) (fun h => ?_) ?_; rotate_left; focus (intro h; (try simp only [Bool.not_eq_true', Bool.not_eq_false'] at h); first | (cases h; done) | exact clash (by with_reducible_and_instances assumption) h | exact clash h (by with_reducible_and_instances assumption) | exact absurd h (by decide) | (refine absurd h ?_; simp; done)))
          | (refine AL.guardT (by rfl) (by rfl) (by rfl) (by rfl) ?_ (fun h => ?_); focus (intro h; (try simp only [Bool.not_eq_true', Bool.not_eq_false'] at h); first | (cases h; done) | exact clash (by with_reducible_and_instances assumption) h | exact clash h (by with_reducible_and_instances assumption) | exact absurd h (by decide) | (refine absurd h ?_; simp; done)))
          | (refine AL.guardT (by rfl) (by rfl) (by rfl) (by rfl) ?_ ?_ <;> (intro h; try simp only [Bool.not_eq_true', Bool.not_eq_false'] at h))
          | (refine AL.guardF (by rfl) (by rfl) (by rfl) (by rfl) (fun h => ?_) ?_; rotate_left; focus (intro h; (try simp only [Bool.not_eq_true', Bool.not_eq_false'] at h); first | (cases h; done) | exact clash (by with_reducible_and_instances assumption) h | exact clash h (by with_reducible_and_instances assumption) | exact absurd h (by decide) | (refine absurd h ?_; simp; done)))
          | (refine AL.guardF (by rfl) (by rfl) (by rfl) (by rfl) ?_ (fun h => ?_); focus (intro h; (try simp only [Bool.not_eq_true', Bool.not_eq_false'] at h); first | (cases h; done) | exact clash (by with_reducible_and_instances assumption) h | exact clash h (by with_reducible_and_instances assumption) | exact absurd h (by decide) | (refine absurd h ?_; simp; done)))
          | (refine AL.guardF (by rfl) (by rfl) (by rfl) (by rfl) ?_ ?_ <;> (intro h; try simp only [Bool.not_eq_true', Bool.not_eq_false'] at h))
          | refine AL.nil ?_)
        | ((with_reducible show DL _ _ _ _ _ _ _); first
          | refine DL.q TT_ok rfl (by rfl) ?_
          | refine DL.p rfl (POp.quiet (QOp.atk_ro (by rfl) (by rfl) (by rfl) (TT_ok.sl _ _ (by rfl)) (Nat.le_of_ble_eq_true (by rfl)) (by first | assumption | omega) (by assumption))) ?_
          | refine DL.p rfl (POp.quiet (QOp.ld1_ro (by rfl) (by rfl) (by assumption) (TT_ok.ld _ _ (by rfl)) (by rfl))) ?_
          | refine DL.p rfl (POp.quiet (QOp.ldr_ro (by rfl) (by rfl) (by assumption) (TT_ok.ld _ _ (by rfl)) (Nat.le_of_ble_eq_true (by rfl)))) ?_
          | refine DL.p rfl (POp.quiet (QOp.at_own (by rfl) (TT_ok.sl _ _ (by rfl)) (by rfl) (by rfl) (by rfl) (by rfl) (by rfl) (by rfl) (by first | assumption | omega | decide) (by first | assumption | omega | decide))) ?_
          | refine DL.p rfl (POp.quiet (QOp.len_own (by rfl) (TT_ok.sl _ _ (by rfl)) (by rfl) (by rfl) (by rfl) (by rfl))) ?_
          | refine DL.p rfl (POp.quiet (QOp.sEq (by rfl) (by rfl) (by rfl) (by first | exact flk26.1 | exact flk109.1) (by rfl) (by rfl) (by rfl) (by rfl) (by rfl) (by rfl) (by rfl) (by rfl))) ?_
          | (refine DL.p rfl (POp.quiet (QOp.cat (by rfl) (by rfl) (by rfl) (by first | assumption | (simp only [ByteArray.size_append, bs_size] at *; omega)))) ?_)
          | refine DL.p rfl (POp.quiet (QOp.pickAnd (by rfl) (by rfl) (by rfl) (by rfl) (by rfl))) ?_
          | refine DL.p rfl (POp.quiet (QOp.pickOr (by rfl) (by rfl) (by rfl) (by rfl) (by rfl))) ?_
          | refine DL.p rfl (POp.quiet (QOp.pickT (by rfl) (by rfl) (by with_reducible_and_instances assumption) (by rfl))) ?_
          | refine DL.p rfl (POp.quiet (QOp.pickF (by rfl) (by rfl) (by with_reducible_and_instances assumption) (by rfl))) ?_
          | refine DL.p rfl (POp.pcall (by rfl) Try.func75 rfl rfl (by rfl) (by first | exact clo_all (by rfl) | repeat' (first | exact clo_nil | refine clo_cons ?_ ?_ | exact clo_of (by rfl) | exact clo_fn _ | assumption)) (inr_s _ _ _) (by first | exact clo_of (by rfl) | assumption)) ?_
          | refine DL.p rfl (POp.pcall (by rfl) Try.func107 rfl rfl (by rfl) (by first | exact clo_all (by rfl) | repeat' (first | exact clo_nil | refine clo_cons ?_ ?_ | exact clo_of (by rfl) | exact clo_fn _ | assumption)) (by first | exact isp_s_t _ _ (by assumption) | exact isp_s_f _ _ (by assumption) | exact isp_s _ _) (by first | exact clo_of (by rfl) | assumption)) ?_
          | refine DL.gU (by rfl) (by rfl) (by rfl) (by rfl) ?_
          | refine DL.gF (by rfl) (by rfl) (by rfl) (by rfl) (by first | rfl | assumption) ?_
          | refine DL.gT (by rfl) (by rfl) (by rfl) (by rfl) (by first | rfl | assumption) (POp.q TT_ok (by rfl)) ?_
          | refine DL.gT (by rfl) (by rfl) (by rfl) (by rfl) (by first | rfl | assumption) (POp.quiet (QOp.atk_ro (by rfl) (by rfl) (by rfl) (TT_ok.sl _ _ (by rfl)) (Nat.le_of_ble_eq_true (by rfl)) (by first | assumption | omega) (by assumption))) ?_
          | refine DL.gT (by rfl) (by rfl) (by rfl) (by rfl) (by first | rfl | assumption) (POp.quiet (QOp.ld1_ro (by rfl) (by rfl) (by assumption) (TT_ok.ld _ _ (by rfl)) (by rfl))) ?_
          | refine DL.gT (by rfl) (by rfl) (by rfl) (by rfl) (by first | rfl | assumption) (POp.quiet (QOp.ldr_ro (by rfl) (by rfl) (by assumption) (TT_ok.ld _ _ (by rfl)) (Nat.le_of_ble_eq_true (by rfl)))) ?_
          | refine DL.gT (by rfl) (by rfl) (by rfl) (by rfl) (by first | rfl | assumption) (POp.quiet (QOp.at_own (by rfl) (TT_ok.sl _ _ (by rfl)) (by rfl) (by rfl) (by rfl) (by rfl) (by rfl) (by rfl) (by first | assumption | omega | decide) (by first | assumption | omega | decide))) ?_
          | refine DL.gT (by rfl) (by rfl) (by rfl) (by rfl) (by first | rfl | assumption) (POp.quiet (QOp.len_own (by rfl) (TT_ok.sl _ _ (by rfl)) (by rfl) (by rfl) (by rfl) (by rfl))) ?_
          | refine DL.gT (by rfl) (by rfl) (by rfl) (by rfl) (by first | rfl | assumption) (POp.quiet (QOp.sEq (by rfl) (by rfl) (by rfl) (by first | exact flk26.1 | exact flk109.1) (by rfl) (by rfl) (by rfl) (by rfl) (by rfl) (by rfl) (by rfl) (by rfl))) ?_
          | (refine DL.gT (by rfl) (by rfl) (by rfl) (by rfl) (by first | rfl | assumption) (POp.quiet (QOp.cat (by rfl) (by rfl) (by rfl) (by first | assumption | (simp only [ByteArray.size_append, bs_size] at *; omega)))) ?_)
          | refine DL.gT (by rfl) (by rfl) (by rfl) (by rfl) (by first | rfl | assumption) (POp.quiet (QOp.pickAnd (by rfl) (by rfl) (by rfl) (by rfl) (by rfl))) ?_
          | refine DL.gT (by rfl) (by rfl) (by rfl) (by rfl) (by first | rfl | assumption) (POp.quiet (QOp.pickOr (by rfl) (by rfl) (by rfl) (by rfl) (by rfl))) ?_
          | refine DL.gT (by rfl) (by rfl) (by rfl) (by rfl) (by first | rfl | assumption) (POp.quiet (QOp.pickT (by rfl) (by rfl) (by with_reducible_and_instances assumption) (by rfl))) ?_
          | refine DL.gT (by rfl) (by rfl) (by rfl) (by rfl) (by first | rfl | assumption) (POp.quiet (QOp.pickF (by rfl) (by rfl) (by with_reducible_and_instances assumption) (by rfl))) ?_
          | refine DL.gT (by rfl) (by rfl) (by rfl) (by rfl) (by first | rfl | assumption) (POp.pcall (by rfl) Try.func75 rfl rfl (by rfl) (by first | exact clo_all (by rfl) | repeat' (first | exact clo_nil | refine clo_cons ?_ ?_ | exact clo_of (by rfl) | exact clo_fn _ | assumption)) (inr_s _ _ _) (by first | exact clo_of (by rfl) | assumption)) ?_
          | refine DL.gT (by rfl) (by rfl) (by rfl) (by rfl) (by first | rfl | assumption) (POp.pcall (by rfl) Try.func107 rfl rfl (by rfl) (by first | exact clo_all (by rfl) | repeat' (first | exact clo_nil | refine clo_cons ?_ ?_ | exact clo_of (by rfl) | exact clo_fn _ | assumption)) (by first | exact isp_s_t _ _ (by assumption) | exact isp_s_f _ _ (by assumption) | exact isp_s _ _) (by first | exact clo_of (by rfl) | assumption)) ?_
          | refine DL.g (by rfl) (by rfl) (by rfl) (by rfl) (fun h => by (try rw [h]); first | exact POp.q TT_ok (by rfl) | exact POp.quiet (QOp.atk_ro (by rfl) (by rfl) (by rfl) (TT_ok.sl _ _ (by rfl)) (Nat.le_of_ble_eq_true (by rfl)) (by first | assumption | omega) (by assumption)) | exact POp.quiet (QOp.ld1_ro (by rfl) (by rfl) (by assumption) (TT_ok.ld _ _ (by rfl)) (by rfl)) | exact POp.quiet (QOp.ldr_ro (by rfl) (by rfl) (by assumption) (TT_ok.ld _ _ (by rfl)) (Nat.le_of_ble_eq_true (by rfl))) | exact POp.quiet (QOp.at_own (by rfl) (TT_ok.sl _ _ (by rfl)) (by rfl) (by rfl) (by rfl) (by rfl) (by rfl) (by rfl) (by first | assumption | omega | decide) (by first | assumption | omega | decide)) | exact POp.quiet (QOp.len_own (by rfl) (TT_ok.sl _ _ (by rfl)) (by rfl) (by rfl) (by rfl) (by rfl)) | exact POp.quiet (QOp.sEq (by rfl) (by rfl) (by rfl) (by first | exact flk26.1 | exact flk109.1) (by rfl) (by rfl) (by rfl) (by rfl) (by rfl) (by rfl) (by rfl) (by rfl)) | exact POp.quiet (QOp.cat (by rfl) (by rfl) (by rfl) (by first | assumption | (simp only [ByteArray.size_append, bs_size] at *; omega))) | exact POp.quiet (QOp.pickAnd (by rfl) (by rfl) (by rfl) (by rfl) (by rfl)) | exact POp.quiet (QOp.pickOr (by rfl) (by rfl) (by rfl) (by rfl) (by rfl)) | exact POp.quiet (QOp.pickT (by rfl) (by rfl) (by with_reducible_and_instances assumption) (by rfl)) | exact POp.quiet (QOp.pickF (by rfl) (by rfl) (by with_reducible_and_instances assumption) (by rfl)) | exact POp.pcall (by rfl) Try.func75 rfl rfl (by rfl) (by first | exact clo_all (by rfl) | repeat' (first | exact clo_nil | refine clo_cons ?_ ?_ | exact clo_of (by rfl) | exact clo_fn _ | assumption)) (inr_s _ _ _) (by first | exact clo_of (by rfl) | assumption) | exact POp.pcall (by rfl) Try.func107 rfl rfl (by rfl) (by first | exact clo_all (by rfl) | repeat' (first | exact clo_nil | refine clo_cons ?_ ?_ | exact clo_of (by rfl) | exact clo_fn _ | assumption)) (by first | exact isp_s_t _ _ (by assumption) | exact isp_s_f _ _ (by assumption) | exact isp_s _ _) (by first | exact clo_of (by rfl) | assumption)) ?_
          | refine DL.nil ?_)
        | ((with_reducible show AW _ _ _ _ _ _); first
          | refine AW.seq ?_
          | refine AW.region ?_
          | refine AW.skip ?_
          | refine AW.drawn (id := 4) 19 (by kernel_rfl) (by kernel_rfl) (by rfl) ?_
          | (refine AW.cond (by rfl) (fun h => ?_) ?_; rotate_left; focus (intro h; (try simp only [Bool.not_eq_true', Bool.not_eq_false'] at h); first | (cases h; done) | exact clash (by with_reducible_and_instances assumption) h | exact clash h (by with_reducible_and_instances assumption) | exact absurd h (by decide) | (refine absurd h ?_; simp; done)))
          | (refine AW.cond (by rfl) ?_ (fun h => ?_); focus (intro h; (try simp only [Bool.not_eq_true', Bool.not_eq_false'] at h); first | (cases h; done) | exact clash (by with_reducible_and_instances assumption) h | exact clash h (by with_reducible_and_instances assumption) | exact absurd h (by decide) | (refine absurd h ?_; simp; done)))
          | (refine AW.cond (by rfl) ?_ ?_ <;> (intro h; try simp only [Bool.not_eq_true', Bool.not_eq_false'] at h))
          | refine AW.block ?_
          | refine AW.exit ?_
          | refine AW.ret ?_)
        | with_reducible refine (if_pos rfl).mpr ?_
        | with_reducible refine (if_neg (by decide)).mpr ?_) <;> (try dsimp only [dput, List.set, cond_true, cond_false, Nat.zero_add, Nat.add_zero, Nat.reduceAdd, splice, List.take, List.drop, List.length, List.nil_append, List.cons_append, List.append, TPoint.en, TSegment.en, TBox.en, TFeature.en, TMeet.en, TPlace.en, TCover.en, TLabel.en, TPiece.en, TLevel.en, TChart.en, TReason.en, TEdit.en, TEntry.en, TEdition.en, TListing.en, TAtlas.en, TEvent.en, TWindow.en]))
      all_goals first
        | (refine ⟨i + 1, _, ⟨hlt, by simp_all⟩, by omega, ?_, rfl, ?_, ?_⟩; (focus ((repeat' (first | exact Wk.nil | refine Wk.any ?_ | (with_reducible refine Wk.same ?_) | refine Wk.of ?_ ?_)) <;> (simp_all))); (focus ((repeat' (first | exact Fits.nil _ | refine Fits.cons ?_ ?_ | exact Fits.any _ | exact Fits.c _ _ | exact Fits.own (by rfl) | exact Fits.ref (by rfl) | exact Fits.clo (by assumption) | exact Fits.clo (clo_of (by rfl)) | exact Fits.clo (clo_fn _))))); (focus (exact FitsM.nil _)))
        | exact Fin.one rfl (RV.tmp (by rfl)) (clo_c _) ⟨by have hn := ptsOk_not (n := l.length) (by simp_all : okAt l i = false) hlt; simp_all [isLine], rfl⟩
    · have ht := lt_false (f := TPoint.en) hlt
      have e : i = l.length := by omega
      subst e
      try rw [List.take_length]
      repeat' ((first
        | ((with_reducible show OpA _ _ _ _ _ _); first
          | refine OpA.q TT_ok (by rfl) ?_
          | (refine OpA.quiet (QOp.pickT (by rfl) (by rfl) ?_ (by rfl)) ?_; focus (first | (with_reducible rfl) | (with_reducible_and_instances assumption) | (simp only [Bool.not_eq_true', Bool.not_eq_false']; with_reducible_and_instances assumption)))
          | (refine OpA.quiet (QOp.pickF (by rfl) (by rfl) ?_ (by rfl)) ?_; focus (first | (with_reducible rfl) | (with_reducible_and_instances assumption) | (simp only [Bool.not_eq_true', Bool.not_eq_false']; with_reducible_and_instances assumption)))
          | refine OpA.quiet (QOp.atk_ro (by rfl) (by rfl) (by rfl) (TT_ok.sl _ _ (by rfl)) (Nat.le_of_ble_eq_true (by rfl)) (by first | assumption | omega) (by assumption)) ?_
          | refine OpA.quiet (QOp.ld1_ro (by rfl) (by rfl) (by assumption) (TT_ok.ld _ _ (by rfl)) (by rfl)) ?_
          | refine OpA.quiet (QOp.ldr_ro (by rfl) (by rfl) (by assumption) (TT_ok.ld _ _ (by rfl)) (Nat.le_of_ble_eq_true (by rfl))) ?_
          | refine OpA.quiet (QOp.at_own (by rfl) (TT_ok.sl _ _ (by rfl)) (by rfl) (by rfl) (by rfl) (by rfl) (by rfl) (by rfl) (by first | assumption | omega | decide) (by first | assumption | omega | decide)) ?_
          | refine OpA.quiet (QOp.len_own (by rfl) (TT_ok.sl _ _ (by rfl)) (by rfl) (by rfl) (by rfl) (by rfl)) ?_
          | refine OpA.quiet (QOp.sEq (by rfl) (by rfl) (by rfl) (by first | exact flk26.1 | exact flk109.1) (by rfl) (by rfl) (by rfl) (by rfl) (by rfl) (by rfl) (by rfl) (by rfl)) ?_
          | (refine OpA.quiet (QOp.cat (by rfl) (by rfl) (by rfl) (by first | assumption | (simp only [ByteArray.size_append, bs_size] at *; omega))) ?_)
          | refine OpA.pcall (by rfl) Try.func75 rfl rfl (by rfl) (by first | exact clo_all (by rfl) | repeat' (first | exact clo_nil | refine clo_cons ?_ ?_ | exact clo_of (by rfl) | exact clo_fn _ | assumption)) (inr_s _ _ _) (by first | exact clo_of (by rfl) | assumption) ?_
          | refine OpA.pcall (by rfl) Try.func107 rfl rfl (by rfl) (by first | exact clo_all (by rfl) | repeat' (first | exact clo_nil | refine clo_cons ?_ ?_ | exact clo_of (by rfl) | exact clo_fn _ | assumption)) (by first | exact isp_s_t _ _ (by assumption) | exact isp_s_f _ _ (by assumption) | exact isp_s _ _) (by first | exact clo_of (by rfl) | assumption) ?_
          | refine OpA.quiet (QOp.pickAnd (by rfl) (by rfl) (by rfl) (by rfl) (by rfl)) ?_
          | refine OpA.quiet (QOp.pickOr (by rfl) (by rfl) (by rfl) (by rfl) (by rfl)) ?_)
        | ((with_reducible show AL _ _ _ _ _ _ _); first
          | refine AL.q TT_ok rfl (by rfl) ?_
          | refine AL.step rfl ?_
          | refine AL.guardU (by rfl) (by rfl) (by rfl) (by rfl) ?_
          | refine AL.gF (by rfl) (by rfl) (by rfl) (by rfl) (by first | rfl | assumption) ?_
          | refine AL.gT (by rfl) (by rfl) (by rfl) (by rfl) (by first | rfl | assumption) ?_
          | refine AL.guardW (by rfl) (by rfl) (by rfl) (by rfl) (fun h => by (try rw [h]); first | exact OpA.quietW (QOp.quietA TT_ok (by rfl)) | exact OpA.pcall (by rfl) Try.func75 rfl rfl (by rfl) (by first | exact clo_all (by rfl) | repeat' (first | exact clo_nil | refine clo_cons ?_ ?_ | exact clo_of (by rfl) | exact clo_fn _ | assumption)) (inr_s _ _ _) (by first | exact clo_of (by rfl) | assumption) ⟨by rfl, rfl⟩ | exact OpA.pcall (by rfl) Try.func107 rfl rfl (by rfl) (by first | exact clo_all (by rfl) | repeat' (first | exact clo_nil | refine clo_cons ?_ ?_ | exact clo_of (by rfl) | exact clo_fn _ | assumption)) (by first | exact isp_s_t _ _ (by assumption) | exact isp_s_f _ _ (by assumption) | exact isp_s _ _) (by first | exact clo_of (by rfl) | assumption) ⟨by rfl, rfl⟩ | exact OpA.quietW (QOp.atk_ro (by rfl) (by rfl) (by rfl) (TT_ok.sl _ _ (by rfl)) (Nat.le_of_ble_eq_true (by rfl)) (by first | assumption | omega) (by assumption)) | exact OpA.quietW (QOp.ld1_ro (by rfl) (by rfl) (by assumption) (TT_ok.ld _ _ (by rfl)) (by rfl)) | exact OpA.quietW (QOp.ldr_ro (by rfl) (by rfl) (by assumption) (TT_ok.ld _ _ (by rfl)) (Nat.le_of_ble_eq_true (by rfl))) | exact OpA.quietW (QOp.at_own (by rfl) (TT_ok.sl _ _ (by rfl)) (by rfl) (by rfl) (by rfl) (by rfl) (by rfl) (by rfl) (by first | assumption | omega | decide) (by first | assumption | omega | decide)) | exact OpA.quietW (QOp.len_own (by rfl) (TT_ok.sl _ _ (by rfl)) (by rfl) (by rfl) (by rfl) (by rfl)) | exact OpA.quietW (QOp.sEq (by rfl) (by rfl) (by rfl) (by first | exact flk26.1 | exact flk109.1) (by rfl) (by rfl) (by rfl) (by rfl) (by rfl) (by rfl) (by rfl) (by rfl)) | exact OpA.quietW (QOp.cat (by rfl) (by rfl) (by rfl) (by first | assumption | (simp only [ByteArray.size_append, bs_size] at *; omega))) | exact OpA.quietW (QOp.pickAnd (by rfl) (by rfl) (by rfl) (by rfl) (by rfl)) | exact OpA.quietW (QOp.pickOr (by rfl) (by rfl) (by rfl) (by rfl) (by rfl))) ?_
          | (refine AL.guardT (by rfl) (by rfl) (by rfl) (by rfl) (fun h => ?_) ?_; rotate_left; focus (intro h; (try simp only [Bool.not_eq_true', Bool.not_eq_false'] at h); first | (cases h; done) | exact clash (by with_reducible_and_instances assumption) h | exact clash h (by with_reducible_and_instances assumption) | exact absurd h (by decide) | (refine absurd h ?_; simp; done)))
          | (refine AL.guardT (by rfl) (by rfl) (by rfl) (by rfl) ?_ (fun h => ?_); focus (intro h; (try simp only [Bool.not_eq_true', Bool.not_eq_false'] at h); first | (cases h; done) | exact clash (by with_reducible_and_instances assumption) h | exact clash h (by with_reducible_and_instances assumption) | exact absurd h (by decide) | (refine absurd h ?_; simp; done)))
          | (refine AL.guardT (by rfl) (by rfl) (by rfl) (by rfl) ?_ ?_ <;> (intro h; try simp only [Bool.not_eq_true', Bool.not_eq_false'] at h))
          | (refine AL.guardF (by rfl) (by rfl) (by rfl) (by rfl) (fun h => ?_) ?_; rotate_left; focus (intro h; (try simp only [Bool.not_eq_true', Bool.not_eq_false'] at h); first | (cases h; done) | exact clash (by with_reducible_and_instances assumption) h | exact clash h (by with_reducible_and_instances assumption) | exact absurd h (by decide) | (refine absurd h ?_; simp; done)))
          | (refine AL.guardF (by rfl) (by rfl) (by rfl) (by rfl) ?_ (fun h => ?_); focus (intro h; (try simp only [Bool.not_eq_true', Bool.not_eq_false'] at h); first | (cases h; done) | exact clash (by with_reducible_and_instances assumption) h | exact clash h (by with_reducible_and_instances assumption) | exact absurd h (by decide) | (refine absurd h ?_; simp; done)))
          | (refine AL.guardF (by rfl) (by rfl) (by rfl) (by rfl) ?_ ?_ <;> (intro h; try simp only [Bool.not_eq_true', Bool.not_eq_false'] at h))
          | refine AL.nil ?_)
        | ((with_reducible show DL _ _ _ _ _ _ _); first
          | refine DL.q TT_ok rfl (by rfl) ?_
          | refine DL.p rfl (POp.quiet (QOp.atk_ro (by rfl) (by rfl) (by rfl) (TT_ok.sl _ _ (by rfl)) (Nat.le_of_ble_eq_true (by rfl)) (by first | assumption | omega) (by assumption))) ?_
          | refine DL.p rfl (POp.quiet (QOp.ld1_ro (by rfl) (by rfl) (by assumption) (TT_ok.ld _ _ (by rfl)) (by rfl))) ?_
          | refine DL.p rfl (POp.quiet (QOp.ldr_ro (by rfl) (by rfl) (by assumption) (TT_ok.ld _ _ (by rfl)) (Nat.le_of_ble_eq_true (by rfl)))) ?_
          | refine DL.p rfl (POp.quiet (QOp.at_own (by rfl) (TT_ok.sl _ _ (by rfl)) (by rfl) (by rfl) (by rfl) (by rfl) (by rfl) (by rfl) (by first | assumption | omega | decide) (by first | assumption | omega | decide))) ?_
          | refine DL.p rfl (POp.quiet (QOp.len_own (by rfl) (TT_ok.sl _ _ (by rfl)) (by rfl) (by rfl) (by rfl) (by rfl))) ?_
          | refine DL.p rfl (POp.quiet (QOp.sEq (by rfl) (by rfl) (by rfl) (by first | exact flk26.1 | exact flk109.1) (by rfl) (by rfl) (by rfl) (by rfl) (by rfl) (by rfl) (by rfl) (by rfl))) ?_
          | (refine DL.p rfl (POp.quiet (QOp.cat (by rfl) (by rfl) (by rfl) (by first | assumption | (simp only [ByteArray.size_append, bs_size] at *; omega)))) ?_)
          | refine DL.p rfl (POp.quiet (QOp.pickAnd (by rfl) (by rfl) (by rfl) (by rfl) (by rfl))) ?_
          | refine DL.p rfl (POp.quiet (QOp.pickOr (by rfl) (by rfl) (by rfl) (by rfl) (by rfl))) ?_
          | refine DL.p rfl (POp.quiet (QOp.pickT (by rfl) (by rfl) (by with_reducible_and_instances assumption) (by rfl))) ?_
          | refine DL.p rfl (POp.quiet (QOp.pickF (by rfl) (by rfl) (by with_reducible_and_instances assumption) (by rfl))) ?_
          | refine DL.p rfl (POp.pcall (by rfl) Try.func75 rfl rfl (by rfl) (by first | exact clo_all (by rfl) | repeat' (first | exact clo_nil | refine clo_cons ?_ ?_ | exact clo_of (by rfl) | exact clo_fn _ | assumption)) (inr_s _ _ _) (by first | exact clo_of (by rfl) | assumption)) ?_
          | refine DL.p rfl (POp.pcall (by rfl) Try.func107 rfl rfl (by rfl) (by first | exact clo_all (by rfl) | repeat' (first | exact clo_nil | refine clo_cons ?_ ?_ | exact clo_of (by rfl) | exact clo_fn _ | assumption)) (by first | exact isp_s_t _ _ (by assumption) | exact isp_s_f _ _ (by assumption) | exact isp_s _ _) (by first | exact clo_of (by rfl) | assumption)) ?_
          | refine DL.gU (by rfl) (by rfl) (by rfl) (by rfl) ?_
          | refine DL.gF (by rfl) (by rfl) (by rfl) (by rfl) (by first | rfl | assumption) ?_
          | refine DL.gT (by rfl) (by rfl) (by rfl) (by rfl) (by first | rfl | assumption) (POp.q TT_ok (by rfl)) ?_
          | refine DL.gT (by rfl) (by rfl) (by rfl) (by rfl) (by first | rfl | assumption) (POp.quiet (QOp.atk_ro (by rfl) (by rfl) (by rfl) (TT_ok.sl _ _ (by rfl)) (Nat.le_of_ble_eq_true (by rfl)) (by first | assumption | omega) (by assumption))) ?_
          | refine DL.gT (by rfl) (by rfl) (by rfl) (by rfl) (by first | rfl | assumption) (POp.quiet (QOp.ld1_ro (by rfl) (by rfl) (by assumption) (TT_ok.ld _ _ (by rfl)) (by rfl))) ?_
          | refine DL.gT (by rfl) (by rfl) (by rfl) (by rfl) (by first | rfl | assumption) (POp.quiet (QOp.ldr_ro (by rfl) (by rfl) (by assumption) (TT_ok.ld _ _ (by rfl)) (Nat.le_of_ble_eq_true (by rfl)))) ?_
          | refine DL.gT (by rfl) (by rfl) (by rfl) (by rfl) (by first | rfl | assumption) (POp.quiet (QOp.at_own (by rfl) (TT_ok.sl _ _ (by rfl)) (by rfl) (by rfl) (by rfl) (by rfl) (by rfl) (by rfl) (by first | assumption | omega | decide) (by first | assumption | omega | decide))) ?_
          | refine DL.gT (by rfl) (by rfl) (by rfl) (by rfl) (by first | rfl | assumption) (POp.quiet (QOp.len_own (by rfl) (TT_ok.sl _ _ (by rfl)) (by rfl) (by rfl) (by rfl) (by rfl))) ?_
          | refine DL.gT (by rfl) (by rfl) (by rfl) (by rfl) (by first | rfl | assumption) (POp.quiet (QOp.sEq (by rfl) (by rfl) (by rfl) (by first | exact flk26.1 | exact flk109.1) (by rfl) (by rfl) (by rfl) (by rfl) (by rfl) (by rfl) (by rfl) (by rfl))) ?_
          | (refine DL.gT (by rfl) (by rfl) (by rfl) (by rfl) (by first | rfl | assumption) (POp.quiet (QOp.cat (by rfl) (by rfl) (by rfl) (by first | assumption | (simp only [ByteArray.size_append, bs_size] at *; omega)))) ?_)
          | refine DL.gT (by rfl) (by rfl) (by rfl) (by rfl) (by first | rfl | assumption) (POp.quiet (QOp.pickAnd (by rfl) (by rfl) (by rfl) (by rfl) (by rfl))) ?_
          | refine DL.gT (by rfl) (by rfl) (by rfl) (by rfl) (by first | rfl | assumption) (POp.quiet (QOp.pickOr (by rfl) (by rfl) (by rfl) (by rfl) (by rfl))) ?_
          | refine DL.gT (by rfl) (by rfl) (by rfl) (by rfl) (by first | rfl | assumption) (POp.quiet (QOp.pickT (by rfl) (by rfl) (by with_reducible_and_instances assumption) (by rfl))) ?_
          | refine DL.gT (by rfl) (by rfl) (by rfl) (by rfl) (by first | rfl | assumption) (POp.quiet (QOp.pickF (by rfl) (by rfl) (by with_reducible_and_instances assumption) (by rfl))) ?_
          | refine DL.gT (by rfl) (by rfl) (by rfl) (by rfl) (by first | rfl | assumption) (POp.pcall (by rfl) Try.func75 rfl rfl (by rfl) (by first | exact clo_all (by rfl) | repeat' (first | exact clo_nil | refine clo_cons ?_ ?_ | exact clo_of (by rfl) | exact clo_fn _ | assumption)) (inr_s _ _ _) (by first | exact clo_of (by rfl) | assumption)) ?_
          | refine DL.gT (by rfl) (by rfl) (by rfl) (by rfl) (by first | rfl | assumption) (POp.pcall (by rfl) Try.func107 rfl rfl (by rfl) (by first | exact clo_all (by rfl) | repeat' (first | exact clo_nil | refine clo_cons ?_ ?_ | exact clo_of (by rfl) | exact clo_fn _ | assumption)) (by first | exact isp_s_t _ _ (by assumption) | exact isp_s_f _ _ (by assumption) | exact isp_s _ _) (by first | exact clo_of (by rfl) | assumption)) ?_
          | refine DL.g (by rfl) (by rfl) (by rfl) (by rfl) (fun h => by (try rw [h]); first | exact POp.q TT_ok (by rfl) | exact POp.quiet (QOp.atk_ro (by rfl) (by rfl) (by rfl) (TT_ok.sl _ _ (by rfl)) (Nat.le_of_ble_eq_true (by rfl)) (by first | assumption | omega) (by assumption)) | exact POp.quiet (QOp.ld1_ro (by rfl) (by rfl) (by assumption) (TT_ok.ld _ _ (by rfl)) (by rfl)) | exact POp.quiet (QOp.ldr_ro (by rfl) (by rfl) (by assumption) (TT_ok.ld _ _ (by rfl)) (Nat.le_of_ble_eq_true (by rfl))) | exact POp.quiet (QOp.at_own (by rfl) (TT_ok.sl _ _ (by rfl)) (by rfl) (by rfl) (by rfl) (by rfl) (by rfl) (by rfl) (by first | assumption | omega | decide) (by first | assumption | omega | decide)) | exact POp.quiet (QOp.len_own (by rfl) (TT_ok.sl _ _ (by rfl)) (by rfl) (by rfl) (by rfl) (by rfl)) | exact POp.quiet (QOp.sEq (by rfl) (by rfl) (by rfl) (by first | exact flk26.1 | exact flk109.1) (by rfl) (by rfl) (by rfl) (by rfl) (by rfl) (by rfl) (by rfl) (by rfl)) | exact POp.quiet (QOp.cat (by rfl) (by rfl) (by rfl) (by first | assumption | (simp only [ByteArray.size_append, bs_size] at *; omega))) | exact POp.quiet (QOp.pickAnd (by rfl) (by rfl) (by rfl) (by rfl) (by rfl)) | exact POp.quiet (QOp.pickOr (by rfl) (by rfl) (by rfl) (by rfl) (by rfl)) | exact POp.quiet (QOp.pickT (by rfl) (by rfl) (by with_reducible_and_instances assumption) (by rfl)) | exact POp.quiet (QOp.pickF (by rfl) (by rfl) (by with_reducible_and_instances assumption) (by rfl)) | exact POp.pcall (by rfl) Try.func75 rfl rfl (by rfl) (by first | exact clo_all (by rfl) | repeat' (first | exact clo_nil | refine clo_cons ?_ ?_ | exact clo_of (by rfl) | exact clo_fn _ | assumption)) (inr_s _ _ _) (by first | exact clo_of (by rfl) | assumption) | exact POp.pcall (by rfl) Try.func107 rfl rfl (by rfl) (by first | exact clo_all (by rfl) | repeat' (first | exact clo_nil | refine clo_cons ?_ ?_ | exact clo_of (by rfl) | exact clo_fn _ | assumption)) (by first | exact isp_s_t _ _ (by assumption) | exact isp_s_f _ _ (by assumption) | exact isp_s _ _) (by first | exact clo_of (by rfl) | assumption)) ?_
          | refine DL.nil ?_)
        | ((with_reducible show AW _ _ _ _ _ _); first
          | refine AW.seq ?_
          | refine AW.region ?_
          | refine AW.skip ?_
          | refine AW.drawn (id := 4) 19 (by kernel_rfl) (by kernel_rfl) (by rfl) ?_
          | (refine AW.cond (by rfl) (fun h => ?_) ?_; rotate_left; focus (intro h; (try simp only [Bool.not_eq_true', Bool.not_eq_false'] at h); first | (cases h; done) | exact clash (by with_reducible_and_instances assumption) h | exact clash h (by with_reducible_and_instances assumption) | exact absurd h (by decide) | (refine absurd h ?_; simp; done)))
          | (refine AW.cond (by rfl) ?_ (fun h => ?_); focus (intro h; (try simp only [Bool.not_eq_true', Bool.not_eq_false'] at h); first | (cases h; done) | exact clash (by with_reducible_and_instances assumption) h | exact clash h (by with_reducible_and_instances assumption) | exact absurd h (by decide) | (refine absurd h ?_; simp; done)))
          | (refine AW.cond (by rfl) ?_ ?_ <;> (intro h; try simp only [Bool.not_eq_true', Bool.not_eq_false'] at h))
          | refine AW.block ?_
          | refine AW.exit ?_
          | refine AW.ret ?_)
        | with_reducible refine (if_pos rfl).mpr ?_
        | with_reducible refine (if_neg (by decide)).mpr ?_) <;> (try dsimp only [dput, List.set, cond_true, cond_false, Nat.zero_add, Nat.add_zero, Nat.reduceAdd, splice, List.take, List.drop, List.length, List.nil_append, List.cons_append, List.append, TPoint.en, TSegment.en, TBox.en, TFeature.en, TMeet.en, TPlace.en, TCover.en, TLabel.en, TPiece.en, TLevel.en, TChart.en, TReason.en, TEdit.en, TEntry.en, TEdition.en, TListing.en, TAtlas.en, TEvent.en, TWindow.en]))
      all_goals exact Fin.one rfl (RV.tmp (by rfl)) (clo_c _) ⟨by simp_all [isLine], rfl⟩

set_option maxRecDepth 100000 in
set_option maxHeartbeats 2000000 in
theorem isLine_i (l : List TPoint) (hl : l.length ≤ 1048576) : VCalls Try.prog 109 [.ro 2 (l.map TPoint.en)] (fun r M => r = B (isLine l) ∧ M = []) := by
  refine VCalls.bodyE Try.func109 rfl 36 rfl (fun E hE => ?_)
  simp only [List.reduceReplicate, List.cons_append, List.nil_append]
  repeat' ((first
    | ((with_reducible show OpA _ _ _ _ _ _); first
      | refine OpA.q TT_ok (by rfl) ?_
      | (refine OpA.quiet (QOp.pickT (by rfl) (by rfl) ?_ (by rfl)) ?_; focus (first | (with_reducible rfl) | (with_reducible_and_instances assumption) | (simp only [Bool.not_eq_true', Bool.not_eq_false']; with_reducible_and_instances assumption)))
      | (refine OpA.quiet (QOp.pickF (by rfl) (by rfl) ?_ (by rfl)) ?_; focus (first | (with_reducible rfl) | (with_reducible_and_instances assumption) | (simp only [Bool.not_eq_true', Bool.not_eq_false']; with_reducible_and_instances assumption)))
      | refine OpA.quiet (QOp.atk_ro (by rfl) (by rfl) (by rfl) (TT_ok.sl _ _ (by rfl)) (Nat.le_of_ble_eq_true (by rfl)) (by first | assumption | omega) (by assumption)) ?_
      | refine OpA.quiet (QOp.ld1_ro (by rfl) (by rfl) (by assumption) (TT_ok.ld _ _ (by rfl)) (by rfl)) ?_
      | refine OpA.quiet (QOp.ldr_ro (by rfl) (by rfl) (by assumption) (TT_ok.ld _ _ (by rfl)) (Nat.le_of_ble_eq_true (by rfl))) ?_
      | refine OpA.quiet (QOp.at_own (by rfl) (TT_ok.sl _ _ (by rfl)) (by rfl) (by rfl) (by rfl) (by rfl) (by rfl) (by rfl) (by first | assumption | omega | decide) (by first | assumption | omega | decide)) ?_
      | refine OpA.quiet (QOp.len_own (by rfl) (TT_ok.sl _ _ (by rfl)) (by rfl) (by rfl) (by rfl) (by rfl)) ?_
      | refine OpA.quiet (QOp.sEq (by rfl) (by rfl) (by rfl) (by first | exact flk26.1 | exact flk109.1) (by rfl) (by rfl) (by rfl) (by rfl) (by rfl) (by rfl) (by rfl) (by rfl)) ?_
      | (refine OpA.quiet (QOp.cat (by rfl) (by rfl) (by rfl) (by first | assumption | (simp only [ByteArray.size_append, bs_size] at *; omega))) ?_)
      | refine OpA.allocA (by rfl) (by first | exact ze2 | exact ze3 | exact ze4 | exact ze6 | exact ze7 | exact ze8 | exact ze9 | exact ze10 | exact ze12 | exact ze13 | exact ze14 | exact ze15 | exact ze17 | exact ze18 | exact ze19 | exact ze21 | exact ze22 | exact ze23 | exact ze26 | exact ze29 | exact ze32 | exact ze36 | exact ze65 | exact ze66 | exact ze68 | exact ze74 | exact ze109) ?_
      | refine OpA.sto (by rfl) (by rfl) (by rfl) (by rfl) (by rfl) (by rfl) (by rfl) (by rfl) (TT_ok.ld _ _ (by rfl)) (by rfl) (Nat.le_of_ble_eq_true (by rfl)) ?_
      | refine OpA.sto (by rfl) (by rfl) (by rfl) (by rfl) (by rfl) (by assumption) (by rfl) (by rfl) (TT_ok.ld _ _ (by rfl)) (by rfl) (Nat.le_of_ble_eq_true (by rfl)) ?_
      | refine OpA.pcall (by rfl) Try.func110 rfl rfl (by rfl) (by first | exact clo_all (by rfl) | repeat' (first | exact clo_nil | refine clo_cons ?_ ?_ | exact clo_of (by rfl) | exact clo_fn _ | assumption)) (by first | exact isp_v_t _ _ (by assumption) | exact isp_v_f _ _ (by assumption) | exact isp_v _ _) (by first | exact clo_of (by rfl) | assumption) ?_
      | refine OpA.quiet (QOp.pickAnd (by rfl) (by rfl) (by rfl) (by rfl) (by rfl)) ?_
      | refine OpA.quiet (QOp.pickOr (by rfl) (by rfl) (by rfl) (by rfl) (by rfl)) ?_)
    | ((with_reducible show AL _ _ _ _ _ _ _); first
      | refine AL.q TT_ok rfl (by rfl) ?_
      | refine AL.step rfl ?_
      | refine AL.guardU (by rfl) (by rfl) (by rfl) (by rfl) ?_
      | refine AL.gF (by rfl) (by rfl) (by rfl) (by rfl) (by first | rfl | assumption) ?_
      | refine AL.gT (by rfl) (by rfl) (by rfl) (by rfl) (by first | rfl | assumption) ?_
      | refine AL.guardW (by rfl) (by rfl) (by rfl) (by rfl) (fun h => by (try rw [h]); first | exact OpA.quietW (QOp.quietA TT_ok (by rfl)) | exact OpA.pcall (by rfl) Try.func110 rfl rfl (by rfl) (by first | exact clo_all (by rfl) | repeat' (first | exact clo_nil | refine clo_cons ?_ ?_ | exact clo_of (by rfl) | exact clo_fn _ | assumption)) (by first | exact isp_v_t _ _ (by assumption) | exact isp_v_f _ _ (by assumption) | exact isp_v _ _) (by first | exact clo_of (by rfl) | assumption) ⟨by rfl, rfl⟩ | exact OpA.quietW (QOp.atk_ro (by rfl) (by rfl) (by rfl) (TT_ok.sl _ _ (by rfl)) (Nat.le_of_ble_eq_true (by rfl)) (by first | assumption | omega) (by assumption)) | exact OpA.quietW (QOp.ld1_ro (by rfl) (by rfl) (by assumption) (TT_ok.ld _ _ (by rfl)) (by rfl)) | exact OpA.quietW (QOp.ldr_ro (by rfl) (by rfl) (by assumption) (TT_ok.ld _ _ (by rfl)) (Nat.le_of_ble_eq_true (by rfl))) | exact OpA.quietW (QOp.at_own (by rfl) (TT_ok.sl _ _ (by rfl)) (by rfl) (by rfl) (by rfl) (by rfl) (by rfl) (by rfl) (by first | assumption | omega | decide) (by first | assumption | omega | decide)) | exact OpA.quietW (QOp.len_own (by rfl) (TT_ok.sl _ _ (by rfl)) (by rfl) (by rfl) (by rfl) (by rfl)) | exact OpA.quietW (QOp.sEq (by rfl) (by rfl) (by rfl) (by first | exact flk26.1 | exact flk109.1) (by rfl) (by rfl) (by rfl) (by rfl) (by rfl) (by rfl) (by rfl) (by rfl)) | exact OpA.quietW (QOp.cat (by rfl) (by rfl) (by rfl) (by first | assumption | (simp only [ByteArray.size_append, bs_size] at *; omega))) | exact OpA.quietW (QOp.pickAnd (by rfl) (by rfl) (by rfl) (by rfl) (by rfl)) | exact OpA.quietW (QOp.pickOr (by rfl) (by rfl) (by rfl) (by rfl) (by rfl))) ?_
      | (refine AL.guardT (by rfl) (by rfl) (by rfl) (by rfl) (fun h => ?_) ?_; rotate_left; focus (intro h; (try simp only [Bool.not_eq_true', Bool.not_eq_false'] at h); first | (cases h; done) | exact clash (by with_reducible_and_instances assumption) h | exact clash h (by with_reducible_and_instances assumption) | exact absurd h (by decide) | (refine absurd h ?_; simp; done)))
      | (refine AL.guardT (by rfl) (by rfl) (by rfl) (by rfl) ?_ (fun h => ?_); focus (intro h; (try simp only [Bool.not_eq_true', Bool.not_eq_false'] at h); first | (cases h; done) | exact clash (by with_reducible_and_instances assumption) h | exact clash h (by with_reducible_and_instances assumption) | exact absurd h (by decide) | (refine absurd h ?_; simp; done)))
      | (refine AL.guardT (by rfl) (by rfl) (by rfl) (by rfl) ?_ ?_ <;> (intro h; try simp only [Bool.not_eq_true', Bool.not_eq_false'] at h))
      | (refine AL.guardF (by rfl) (by rfl) (by rfl) (by rfl) (fun h => ?_) ?_; rotate_left; focus (intro h; (try simp only [Bool.not_eq_true', Bool.not_eq_false'] at h); first | (cases h; done) | exact clash (by with_reducible_and_instances assumption) h | exact clash h (by with_reducible_and_instances assumption) | exact absurd h (by decide) | (refine absurd h ?_; simp; done)))
      | (refine AL.guardF (by rfl) (by rfl) (by rfl) (by rfl) ?_ (fun h => ?_); focus (intro h; (try simp only [Bool.not_eq_true', Bool.not_eq_false'] at h); first | (cases h; done) | exact clash (by with_reducible_and_instances assumption) h | exact clash h (by with_reducible_and_instances assumption) | exact absurd h (by decide) | (refine absurd h ?_; simp; done)))
      | (refine AL.guardF (by rfl) (by rfl) (by rfl) (by rfl) ?_ ?_ <;> (intro h; try simp only [Bool.not_eq_true', Bool.not_eq_false'] at h))
      | refine AL.nil ?_)
    | ((with_reducible show DL _ _ _ _ _ _ _); first
      | refine DL.q TT_ok rfl (by rfl) ?_
      | refine DL.p rfl (POp.quiet (QOp.atk_ro (by rfl) (by rfl) (by rfl) (TT_ok.sl _ _ (by rfl)) (Nat.le_of_ble_eq_true (by rfl)) (by first | assumption | omega) (by assumption))) ?_
      | refine DL.p rfl (POp.quiet (QOp.ld1_ro (by rfl) (by rfl) (by assumption) (TT_ok.ld _ _ (by rfl)) (by rfl))) ?_
      | refine DL.p rfl (POp.quiet (QOp.ldr_ro (by rfl) (by rfl) (by assumption) (TT_ok.ld _ _ (by rfl)) (Nat.le_of_ble_eq_true (by rfl)))) ?_
      | refine DL.p rfl (POp.quiet (QOp.at_own (by rfl) (TT_ok.sl _ _ (by rfl)) (by rfl) (by rfl) (by rfl) (by rfl) (by rfl) (by rfl) (by first | assumption | omega | decide) (by first | assumption | omega | decide))) ?_
      | refine DL.p rfl (POp.quiet (QOp.len_own (by rfl) (TT_ok.sl _ _ (by rfl)) (by rfl) (by rfl) (by rfl) (by rfl))) ?_
      | refine DL.p rfl (POp.quiet (QOp.sEq (by rfl) (by rfl) (by rfl) (by first | exact flk26.1 | exact flk109.1) (by rfl) (by rfl) (by rfl) (by rfl) (by rfl) (by rfl) (by rfl) (by rfl))) ?_
      | (refine DL.p rfl (POp.quiet (QOp.cat (by rfl) (by rfl) (by rfl) (by first | assumption | (simp only [ByteArray.size_append, bs_size] at *; omega)))) ?_)
      | refine DL.p rfl (POp.quiet (QOp.pickAnd (by rfl) (by rfl) (by rfl) (by rfl) (by rfl))) ?_
      | refine DL.p rfl (POp.quiet (QOp.pickOr (by rfl) (by rfl) (by rfl) (by rfl) (by rfl))) ?_
      | refine DL.p rfl (POp.quiet (QOp.pickT (by rfl) (by rfl) (by with_reducible_and_instances assumption) (by rfl))) ?_
      | refine DL.p rfl (POp.quiet (QOp.pickF (by rfl) (by rfl) (by with_reducible_and_instances assumption) (by rfl))) ?_
      | refine DL.p rfl (POp.pcall (by rfl) Try.func110 rfl rfl (by rfl) (by first | exact clo_all (by rfl) | repeat' (first | exact clo_nil | refine clo_cons ?_ ?_ | exact clo_of (by rfl) | exact clo_fn _ | assumption)) (by first | exact isp_v_t _ _ (by assumption) | exact isp_v_f _ _ (by assumption) | exact isp_v _ _) (by first | exact clo_of (by rfl) | assumption)) ?_
      | refine DL.gU (by rfl) (by rfl) (by rfl) (by rfl) ?_
      | refine DL.gF (by rfl) (by rfl) (by rfl) (by rfl) (by first | rfl | assumption) ?_
      | refine DL.gT (by rfl) (by rfl) (by rfl) (by rfl) (by first | rfl | assumption) (POp.q TT_ok (by rfl)) ?_
      | refine DL.gT (by rfl) (by rfl) (by rfl) (by rfl) (by first | rfl | assumption) (POp.quiet (QOp.atk_ro (by rfl) (by rfl) (by rfl) (TT_ok.sl _ _ (by rfl)) (Nat.le_of_ble_eq_true (by rfl)) (by first | assumption | omega) (by assumption))) ?_
      | refine DL.gT (by rfl) (by rfl) (by rfl) (by rfl) (by first | rfl | assumption) (POp.quiet (QOp.ld1_ro (by rfl) (by rfl) (by assumption) (TT_ok.ld _ _ (by rfl)) (by rfl))) ?_
      | refine DL.gT (by rfl) (by rfl) (by rfl) (by rfl) (by first | rfl | assumption) (POp.quiet (QOp.ldr_ro (by rfl) (by rfl) (by assumption) (TT_ok.ld _ _ (by rfl)) (Nat.le_of_ble_eq_true (by rfl)))) ?_
      | refine DL.gT (by rfl) (by rfl) (by rfl) (by rfl) (by first | rfl | assumption) (POp.quiet (QOp.at_own (by rfl) (TT_ok.sl _ _ (by rfl)) (by rfl) (by rfl) (by rfl) (by rfl) (by rfl) (by rfl) (by first | assumption | omega | decide) (by first | assumption | omega | decide))) ?_
      | refine DL.gT (by rfl) (by rfl) (by rfl) (by rfl) (by first | rfl | assumption) (POp.quiet (QOp.len_own (by rfl) (TT_ok.sl _ _ (by rfl)) (by rfl) (by rfl) (by rfl) (by rfl))) ?_
      | refine DL.gT (by rfl) (by rfl) (by rfl) (by rfl) (by first | rfl | assumption) (POp.quiet (QOp.sEq (by rfl) (by rfl) (by rfl) (by first | exact flk26.1 | exact flk109.1) (by rfl) (by rfl) (by rfl) (by rfl) (by rfl) (by rfl) (by rfl) (by rfl))) ?_
      | (refine DL.gT (by rfl) (by rfl) (by rfl) (by rfl) (by first | rfl | assumption) (POp.quiet (QOp.cat (by rfl) (by rfl) (by rfl) (by first | assumption | (simp only [ByteArray.size_append, bs_size] at *; omega)))) ?_)
      | refine DL.gT (by rfl) (by rfl) (by rfl) (by rfl) (by first | rfl | assumption) (POp.quiet (QOp.pickAnd (by rfl) (by rfl) (by rfl) (by rfl) (by rfl))) ?_
      | refine DL.gT (by rfl) (by rfl) (by rfl) (by rfl) (by first | rfl | assumption) (POp.quiet (QOp.pickOr (by rfl) (by rfl) (by rfl) (by rfl) (by rfl))) ?_
      | refine DL.gT (by rfl) (by rfl) (by rfl) (by rfl) (by first | rfl | assumption) (POp.quiet (QOp.pickT (by rfl) (by rfl) (by with_reducible_and_instances assumption) (by rfl))) ?_
      | refine DL.gT (by rfl) (by rfl) (by rfl) (by rfl) (by first | rfl | assumption) (POp.quiet (QOp.pickF (by rfl) (by rfl) (by with_reducible_and_instances assumption) (by rfl))) ?_
      | refine DL.gT (by rfl) (by rfl) (by rfl) (by rfl) (by first | rfl | assumption) (POp.pcall (by rfl) Try.func110 rfl rfl (by rfl) (by first | exact clo_all (by rfl) | repeat' (first | exact clo_nil | refine clo_cons ?_ ?_ | exact clo_of (by rfl) | exact clo_fn _ | assumption)) (by first | exact isp_v_t _ _ (by assumption) | exact isp_v_f _ _ (by assumption) | exact isp_v _ _) (by first | exact clo_of (by rfl) | assumption)) ?_
      | refine DL.g (by rfl) (by rfl) (by rfl) (by rfl) (fun h => by (try rw [h]); first | exact POp.q TT_ok (by rfl) | exact POp.quiet (QOp.atk_ro (by rfl) (by rfl) (by rfl) (TT_ok.sl _ _ (by rfl)) (Nat.le_of_ble_eq_true (by rfl)) (by first | assumption | omega) (by assumption)) | exact POp.quiet (QOp.ld1_ro (by rfl) (by rfl) (by assumption) (TT_ok.ld _ _ (by rfl)) (by rfl)) | exact POp.quiet (QOp.ldr_ro (by rfl) (by rfl) (by assumption) (TT_ok.ld _ _ (by rfl)) (Nat.le_of_ble_eq_true (by rfl))) | exact POp.quiet (QOp.at_own (by rfl) (TT_ok.sl _ _ (by rfl)) (by rfl) (by rfl) (by rfl) (by rfl) (by rfl) (by rfl) (by first | assumption | omega | decide) (by first | assumption | omega | decide)) | exact POp.quiet (QOp.len_own (by rfl) (TT_ok.sl _ _ (by rfl)) (by rfl) (by rfl) (by rfl) (by rfl)) | exact POp.quiet (QOp.sEq (by rfl) (by rfl) (by rfl) (by first | exact flk26.1 | exact flk109.1) (by rfl) (by rfl) (by rfl) (by rfl) (by rfl) (by rfl) (by rfl) (by rfl)) | exact POp.quiet (QOp.cat (by rfl) (by rfl) (by rfl) (by first | assumption | (simp only [ByteArray.size_append, bs_size] at *; omega))) | exact POp.quiet (QOp.pickAnd (by rfl) (by rfl) (by rfl) (by rfl) (by rfl)) | exact POp.quiet (QOp.pickOr (by rfl) (by rfl) (by rfl) (by rfl) (by rfl)) | exact POp.quiet (QOp.pickT (by rfl) (by rfl) (by with_reducible_and_instances assumption) (by rfl)) | exact POp.quiet (QOp.pickF (by rfl) (by rfl) (by with_reducible_and_instances assumption) (by rfl)) | exact POp.pcall (by rfl) Try.func110 rfl rfl (by rfl) (by first | exact clo_all (by rfl) | repeat' (first | exact clo_nil | refine clo_cons ?_ ?_ | exact clo_of (by rfl) | exact clo_fn _ | assumption)) (by first | exact isp_v_t _ _ (by assumption) | exact isp_v_f _ _ (by assumption) | exact isp_v _ _) (by first | exact clo_of (by rfl) | assumption)) ?_
      | refine DL.nil ?_)
    | ((with_reducible show AW _ _ _ _ _ _); first
      | refine AW.seq ?_
      | refine AW.region ?_
      | refine AW.skip ?_
      | (refine AW.loopD hE (fun i : Nat => [.ro 2 (l.map TPoint.en), .any, .any, .any, .any, .any, .any, .any, .any, .any, .any, .any, .any, .ro 2 (l.map TPoint.en), I (l.map TPoint.en).length, I i, .any, .any, .any, .any, .any, .any, .any, .any, .any, .any, .any, .any, .any, .any, .any, .any, .any, .any, .any, .any, .any]) (fun i => []) (fun i => l.length - i) (fun i => i ≤ l.length ∧ ptsOk l i = true) 0 (by simp [ptsOk]) ?_ (by first | rfl | (simp [fil_zero]; done)) ?_)
      | refine AW.drawn (id := 6) 13 (by kernel_rfl) (by kernel_rfl) (by rfl) ?_
      | (refine AW.cond (by rfl) (fun h => ?_) ?_; rotate_left; focus (intro h; (try simp only [Bool.not_eq_true', Bool.not_eq_false'] at h); first | (cases h; done) | exact clash (by with_reducible_and_instances assumption) h | exact clash h (by with_reducible_and_instances assumption) | exact absurd h (by decide) | (refine absurd h ?_; simp; done)))
      | (refine AW.cond (by rfl) ?_ (fun h => ?_); focus (intro h; (try simp only [Bool.not_eq_true', Bool.not_eq_false'] at h); first | (cases h; done) | exact clash (by with_reducible_and_instances assumption) h | exact clash h (by with_reducible_and_instances assumption) | exact absurd h (by decide) | (refine absurd h ?_; simp; done)))
      | (refine AW.cond (by rfl) ?_ ?_ <;> (intro h; try simp only [Bool.not_eq_true', Bool.not_eq_false'] at h))
      | refine AW.block ?_
      | refine AW.exit ?_
      | refine AW.ret ?_)
    | with_reducible refine (if_pos rfl).mpr ?_
    | with_reducible refine (if_neg (by decide)).mpr ?_) <;> (try dsimp only [dput, List.set, cond_true, cond_false, Nat.zero_add, Nat.add_zero, Nat.reduceAdd, splice, List.take, List.drop, List.length, List.nil_append, List.cons_append, List.append, TPoint.en, TSegment.en, TBox.en, TFeature.en, TMeet.en, TPlace.en, TCover.en, TLabel.en, TPiece.en, TLevel.en, TChart.en, TReason.en, TEdit.en, TEntry.en, TEdition.en, TListing.en, TAtlas.en, TEvent.en, TWindow.en]))
  · exact Fin.one rfl (RV.tmp (by rfl)) (clo_c _) ⟨by simp_all [isLine, inr] <;> omega, rfl⟩
  · (repeat' (first | exact Wk.nil | refine Wk.any ?_ | (with_reducible refine Wk.same ?_) | refine Wk.of ?_ ?_)) <;> first | rfl | (simp)
  · intro i hi
    have hclo : Clo (.ro 2 (l.map TPoint.en)) := clo_list TPoint.clo_en
    by_cases hlt : i < l.length
    · obtain ⟨x, hx⟩ : ∃ x, l[i]? = some x := ⟨_, List.getElem?_eq_getElem hlt⟩
      have hg := map_get (f := TPoint.en) hx
      have ht := lt_true (f := TPoint.en) hlt
      have hn := next_ix hlt (by omega)
      have hsu := ptsOk_succ l i
      have hpc := ptE_comm x (prevP l i)
      rcases ln_cases hx hl with ⟨hI, hk⟩ | ⟨hI, hz, hk⟩ | ⟨hI, hz, h0, hp, hk⟩
      repeat' ((first
        | ((with_reducible show OpA _ _ _ _ _ _); first
          | refine OpA.q TT_ok (by rfl) ?_
          | (refine OpA.quiet (QOp.pickT (by rfl) (by rfl) ?_ (by rfl)) ?_; focus (first | (with_reducible rfl) | (with_reducible_and_instances assumption) | (simp only [Bool.not_eq_true', Bool.not_eq_false']; with_reducible_and_instances assumption)))
          | (refine OpA.quiet (QOp.pickF (by rfl) (by rfl) ?_ (by rfl)) ?_; focus (first | (with_reducible rfl) | (with_reducible_and_instances assumption) | (simp only [Bool.not_eq_true', Bool.not_eq_false']; with_reducible_and_instances assumption)))
          | refine OpA.quiet (QOp.atk_ro (by rfl) (by rfl) (by rfl) (TT_ok.sl _ _ (by rfl)) (Nat.le_of_ble_eq_true (by rfl)) (by first | assumption | omega) (by assumption)) ?_
          | refine OpA.quiet (QOp.ld1_ro (by rfl) (by rfl) (by assumption) (TT_ok.ld _ _ (by rfl)) (by rfl)) ?_
          | refine OpA.quiet (QOp.ldr_ro (by rfl) (by rfl) (by assumption) (TT_ok.ld _ _ (by rfl)) (Nat.le_of_ble_eq_true (by rfl))) ?_
          | refine OpA.quiet (QOp.at_own (by rfl) (TT_ok.sl _ _ (by rfl)) (by rfl) (by rfl) (by rfl) (by rfl) (by rfl) (by rfl) (by first | assumption | omega | decide) (by first | assumption | omega | decide)) ?_
          | refine OpA.quiet (QOp.len_own (by rfl) (TT_ok.sl _ _ (by rfl)) (by rfl) (by rfl) (by rfl) (by rfl)) ?_
          | refine OpA.quiet (QOp.sEq (by rfl) (by rfl) (by rfl) (by first | exact flk26.1 | exact flk109.1) (by rfl) (by rfl) (by rfl) (by rfl) (by rfl) (by rfl) (by rfl) (by rfl)) ?_
          | (refine OpA.quiet (QOp.cat (by rfl) (by rfl) (by rfl) (by first | assumption | (simp only [ByteArray.size_append, bs_size] at *; omega))) ?_)
          | refine OpA.allocA (by rfl) (by first | exact ze2 | exact ze3 | exact ze4 | exact ze6 | exact ze7 | exact ze8 | exact ze9 | exact ze10 | exact ze12 | exact ze13 | exact ze14 | exact ze15 | exact ze17 | exact ze18 | exact ze19 | exact ze21 | exact ze22 | exact ze23 | exact ze26 | exact ze29 | exact ze32 | exact ze36 | exact ze65 | exact ze66 | exact ze68 | exact ze74 | exact ze109) ?_
          | refine OpA.sto (by rfl) (by rfl) (by rfl) (by rfl) (by rfl) (by rfl) (by rfl) (by rfl) (TT_ok.ld _ _ (by rfl)) (by rfl) (Nat.le_of_ble_eq_true (by rfl)) ?_
          | refine OpA.sto (by rfl) (by rfl) (by rfl) (by rfl) (by rfl) (by assumption) (by rfl) (by rfl) (TT_ok.ld _ _ (by rfl)) (by rfl) (Nat.le_of_ble_eq_true (by rfl)) ?_
          | refine OpA.pcall (by rfl) Try.func110 rfl rfl (by rfl) (by first | exact clo_all (by rfl) | repeat' (first | exact clo_nil | refine clo_cons ?_ ?_ | exact clo_of (by rfl) | exact clo_fn _ | assumption)) (by first | exact isp_v_t _ _ (by assumption) | exact isp_v_f _ _ (by assumption) | exact isp_v _ _) (by first | exact clo_of (by rfl) | assumption) ?_
          | refine OpA.quiet (QOp.pickAnd (by rfl) (by rfl) (by rfl) (by rfl) (by rfl)) ?_
          | refine OpA.quiet (QOp.pickOr (by rfl) (by rfl) (by rfl) (by rfl) (by rfl)) ?_)
        | ((with_reducible show AL _ _ _ _ _ _ _); first
          | refine AL.q TT_ok rfl (by rfl) ?_
          | refine AL.step rfl ?_
          | refine AL.guardU (by rfl) (by rfl) (by rfl) (by rfl) ?_
          | refine AL.gF (by rfl) (by rfl) (by rfl) (by rfl) (by first | rfl | assumption) ?_
          | refine AL.gT (by rfl) (by rfl) (by rfl) (by rfl) (by first | rfl | assumption) ?_
          | refine AL.guardW (by rfl) (by rfl) (by rfl) (by rfl) (fun h => by (try rw [h]); first | exact OpA.quietW (QOp.quietA TT_ok (by rfl)) | exact OpA.pcall (by rfl) Try.func110 rfl rfl (by rfl) (by first | exact clo_all (by rfl) | repeat' (first | exact clo_nil | refine clo_cons ?_ ?_ | exact clo_of (by rfl) | exact clo_fn _ | assumption)) (by first | exact isp_v_t _ _ (by assumption) | exact isp_v_f _ _ (by assumption) | exact isp_v _ _) (by first | exact clo_of (by rfl) | assumption) ⟨by rfl, rfl⟩ | exact OpA.quietW (QOp.atk_ro (by rfl) (by rfl) (by rfl) (TT_ok.sl _ _ (by rfl)) (Nat.le_of_ble_eq_true (by rfl)) (by first | assumption | omega) (by assumption)) | exact OpA.quietW (QOp.ld1_ro (by rfl) (by rfl) (by assumption) (TT_ok.ld _ _ (by rfl)) (by rfl)) | exact OpA.quietW (QOp.ldr_ro (by rfl) (by rfl) (by assumption) (TT_ok.ld _ _ (by rfl)) (Nat.le_of_ble_eq_true (by rfl))) | exact OpA.quietW (QOp.at_own (by rfl) (TT_ok.sl _ _ (by rfl)) (by rfl) (by rfl) (by rfl) (by rfl) (by rfl) (by rfl) (by first | assumption | omega | decide) (by first | assumption | omega | decide)) | exact OpA.quietW (QOp.len_own (by rfl) (TT_ok.sl _ _ (by rfl)) (by rfl) (by rfl) (by rfl) (by rfl)) | exact OpA.quietW (QOp.sEq (by rfl) (by rfl) (by rfl) (by first | exact flk26.1 | exact flk109.1) (by rfl) (by rfl) (by rfl) (by rfl) (by rfl) (by rfl) (by rfl) (by rfl)) | exact OpA.quietW (QOp.cat (by rfl) (by rfl) (by rfl) (by first | assumption | (simp only [ByteArray.size_append, bs_size] at *; omega))) | exact OpA.quietW (QOp.pickAnd (by rfl) (by rfl) (by rfl) (by rfl) (by rfl)) | exact OpA.quietW (QOp.pickOr (by rfl) (by rfl) (by rfl) (by rfl) (by rfl))) ?_
          | (refine AL.guardT (by rfl) (by rfl) (by rfl) (by rfl) (fun h => ?_) ?_; rotate_left; focus (intro h; (try simp only [Bool.not_eq_true', Bool.not_eq_false'] at h); first | (cases h; done) | exact clash (by with_reducible_and_instances assumption) h | exact clash h (by with_reducible_and_instances assumption) | exact absurd h (by decide) | (refine absurd h ?_; simp; done)))
          | (refine AL.guardT (by rfl) (by rfl) (by rfl) (by rfl) ?_ (fun h => ?_); focus (intro h; (try simp only [Bool.not_eq_true', Bool.not_eq_false'] at h); first | (cases h; done) | exact clash (by with_reducible_and_instances assumption) h | exact clash h (by with_reducible_and_instances assumption) | exact absurd h (by decide) | (refine absurd h ?_; simp; done)))
          | (refine AL.guardT (by rfl) (by rfl) (by rfl) (by rfl) ?_ ?_ <;> (intro h; try simp only [Bool.not_eq_true', Bool.not_eq_false'] at h))
          | (refine AL.guardF (by rfl) (by rfl) (by rfl) (by rfl) (fun h => ?_) ?_; rotate_left; focus (intro h; (try simp only [Bool.not_eq_true', Bool.not_eq_false'] at h); first | (cases h; done) | exact clash (by with_reducible_and_instances assumption) h | exact clash h (by with_reducible_and_instances assumption) | exact absurd h (by decide) | (refine absurd h ?_; simp; done)))
          | (refine AL.guardF (by rfl) (by rfl) (by rfl) (by rfl) ?_ (fun h => ?_); focus (intro h; (try simp only [Bool.not_eq_true', Bool.not_eq_false'] at h); first | (cases h; done) | exact clash (by with_reducible_and_instances assumption) h | exact clash h (by with_reducible_and_instances assumption) | exact absurd h (by decide) | (refine absurd h ?_; simp; done)))
          | (refine AL.guardF (by rfl) (by rfl) (by rfl) (by rfl) ?_ ?_ <;> (intro h; try simp only [Bool.not_eq_true', Bool.not_eq_false'] at h))
          | refine AL.nil ?_)
        | ((with_reducible show DL _ _ _ _ _ _ _); first
          | refine DL.q TT_ok rfl (by rfl) ?_
          | refine DL.p rfl (POp.quiet (QOp.atk_ro (by rfl) (by rfl) (by rfl) (TT_ok.sl _ _ (by rfl)) (Nat.le_of_ble_eq_true (by rfl)) (by first | assumption | omega) (by assumption))) ?_
          | refine DL.p rfl (POp.quiet (QOp.ld1_ro (by rfl) (by rfl) (by assumption) (TT_ok.ld _ _ (by rfl)) (by rfl))) ?_
          | refine DL.p rfl (POp.quiet (QOp.ldr_ro (by rfl) (by rfl) (by assumption) (TT_ok.ld _ _ (by rfl)) (Nat.le_of_ble_eq_true (by rfl)))) ?_
          | refine DL.p rfl (POp.quiet (QOp.at_own (by rfl) (TT_ok.sl _ _ (by rfl)) (by rfl) (by rfl) (by rfl) (by rfl) (by rfl) (by rfl) (by first | assumption | omega | decide) (by first | assumption | omega | decide))) ?_
          | refine DL.p rfl (POp.quiet (QOp.len_own (by rfl) (TT_ok.sl _ _ (by rfl)) (by rfl) (by rfl) (by rfl) (by rfl))) ?_
          | refine DL.p rfl (POp.quiet (QOp.sEq (by rfl) (by rfl) (by rfl) (by first | exact flk26.1 | exact flk109.1) (by rfl) (by rfl) (by rfl) (by rfl) (by rfl) (by rfl) (by rfl) (by rfl))) ?_
          | (refine DL.p rfl (POp.quiet (QOp.cat (by rfl) (by rfl) (by rfl) (by first | assumption | (simp only [ByteArray.size_append, bs_size] at *; omega)))) ?_)
          | refine DL.p rfl (POp.quiet (QOp.pickAnd (by rfl) (by rfl) (by rfl) (by rfl) (by rfl))) ?_
          | refine DL.p rfl (POp.quiet (QOp.pickOr (by rfl) (by rfl) (by rfl) (by rfl) (by rfl))) ?_
          | refine DL.p rfl (POp.quiet (QOp.pickT (by rfl) (by rfl) (by with_reducible_and_instances assumption) (by rfl))) ?_
          | refine DL.p rfl (POp.quiet (QOp.pickF (by rfl) (by rfl) (by with_reducible_and_instances assumption) (by rfl))) ?_
          | refine DL.p rfl (POp.pcall (by rfl) Try.func110 rfl rfl (by rfl) (by first | exact clo_all (by rfl) | repeat' (first | exact clo_nil | refine clo_cons ?_ ?_ | exact clo_of (by rfl) | exact clo_fn _ | assumption)) (by first | exact isp_v_t _ _ (by assumption) | exact isp_v_f _ _ (by assumption) | exact isp_v _ _) (by first | exact clo_of (by rfl) | assumption)) ?_
          | refine DL.gU (by rfl) (by rfl) (by rfl) (by rfl) ?_
          | refine DL.gF (by rfl) (by rfl) (by rfl) (by rfl) (by first | rfl | assumption) ?_
          | refine DL.gT (by rfl) (by rfl) (by rfl) (by rfl) (by first | rfl | assumption) (POp.q TT_ok (by rfl)) ?_
          | refine DL.gT (by rfl) (by rfl) (by rfl) (by rfl) (by first | rfl | assumption) (POp.quiet (QOp.atk_ro (by rfl) (by rfl) (by rfl) (TT_ok.sl _ _ (by rfl)) (Nat.le_of_ble_eq_true (by rfl)) (by first | assumption | omega) (by assumption))) ?_
          | refine DL.gT (by rfl) (by rfl) (by rfl) (by rfl) (by first | rfl | assumption) (POp.quiet (QOp.ld1_ro (by rfl) (by rfl) (by assumption) (TT_ok.ld _ _ (by rfl)) (by rfl))) ?_
          | refine DL.gT (by rfl) (by rfl) (by rfl) (by rfl) (by first | rfl | assumption) (POp.quiet (QOp.ldr_ro (by rfl) (by rfl) (by assumption) (TT_ok.ld _ _ (by rfl)) (Nat.le_of_ble_eq_true (by rfl)))) ?_
          | refine DL.gT (by rfl) (by rfl) (by rfl) (by rfl) (by first | rfl | assumption) (POp.quiet (QOp.at_own (by rfl) (TT_ok.sl _ _ (by rfl)) (by rfl) (by rfl) (by rfl) (by rfl) (by rfl) (by rfl) (by first | assumption | omega | decide) (by first | assumption | omega | decide))) ?_
          | refine DL.gT (by rfl) (by rfl) (by rfl) (by rfl) (by first | rfl | assumption) (POp.quiet (QOp.len_own (by rfl) (TT_ok.sl _ _ (by rfl)) (by rfl) (by rfl) (by rfl) (by rfl))) ?_
          | refine DL.gT (by rfl) (by rfl) (by rfl) (by rfl) (by first | rfl | assumption) (POp.quiet (QOp.sEq (by rfl) (by rfl) (by rfl) (by first | exact flk26.1 | exact flk109.1) (by rfl) (by rfl) (by rfl) (by rfl) (by rfl) (by rfl) (by rfl) (by rfl))) ?_
          | (refine DL.gT (by rfl) (by rfl) (by rfl) (by rfl) (by first | rfl | assumption) (POp.quiet (QOp.cat (by rfl) (by rfl) (by rfl) (by first | assumption | (simp only [ByteArray.size_append, bs_size] at *; omega)))) ?_)
          | refine DL.gT (by rfl) (by rfl) (by rfl) (by rfl) (by first | rfl | assumption) (POp.quiet (QOp.pickAnd (by rfl) (by rfl) (by rfl) (by rfl) (by rfl))) ?_
          | refine DL.gT (by rfl) (by rfl) (by rfl) (by rfl) (by first | rfl | assumption) (POp.quiet (QOp.pickOr (by rfl) (by rfl) (by rfl) (by rfl) (by rfl))) ?_
          | refine DL.gT (by rfl) (by rfl) (by rfl) (by rfl) (by first | rfl | assumption) (POp.quiet (QOp.pickT (by rfl) (by rfl) (by with_reducible_and_instances assumption) (by rfl))) ?_
          | refine DL.gT (by rfl) (by rfl) (by rfl) (by rfl) (by first | rfl | assumption) (POp.quiet (QOp.pickF (by rfl) (by rfl) (by with_reducible_and_instances assumption) (by rfl))) ?_
          | refine DL.gT (by rfl) (by rfl) (by rfl) (by rfl) (by first | rfl | assumption) (POp.pcall (by rfl) Try.func110 rfl rfl (by rfl) (by first | exact clo_all (by rfl) | repeat' (first | exact clo_nil | refine clo_cons ?_ ?_ | exact clo_of (by rfl) | exact clo_fn _ | assumption)) (by first | exact isp_v_t _ _ (by assumption) | exact isp_v_f _ _ (by assumption) | exact isp_v _ _) (by first | exact clo_of (by rfl) | assumption)) ?_
          | refine DL.g (by rfl) (by rfl) (by rfl) (by rfl) (fun h => by (try rw [h]); first | exact POp.q TT_ok (by rfl) | exact POp.quiet (QOp.atk_ro (by rfl) (by rfl) (by rfl) (TT_ok.sl _ _ (by rfl)) (Nat.le_of_ble_eq_true (by rfl)) (by first | assumption | omega) (by assumption)) | exact POp.quiet (QOp.ld1_ro (by rfl) (by rfl) (by assumption) (TT_ok.ld _ _ (by rfl)) (by rfl)) | exact POp.quiet (QOp.ldr_ro (by rfl) (by rfl) (by assumption) (TT_ok.ld _ _ (by rfl)) (Nat.le_of_ble_eq_true (by rfl))) | exact POp.quiet (QOp.at_own (by rfl) (TT_ok.sl _ _ (by rfl)) (by rfl) (by rfl) (by rfl) (by rfl) (by rfl) (by rfl) (by first | assumption | omega | decide) (by first | assumption | omega | decide)) | exact POp.quiet (QOp.len_own (by rfl) (TT_ok.sl _ _ (by rfl)) (by rfl) (by rfl) (by rfl) (by rfl)) | exact POp.quiet (QOp.sEq (by rfl) (by rfl) (by rfl) (by first | exact flk26.1 | exact flk109.1) (by rfl) (by rfl) (by rfl) (by rfl) (by rfl) (by rfl) (by rfl) (by rfl)) | exact POp.quiet (QOp.cat (by rfl) (by rfl) (by rfl) (by first | assumption | (simp only [ByteArray.size_append, bs_size] at *; omega))) | exact POp.quiet (QOp.pickAnd (by rfl) (by rfl) (by rfl) (by rfl) (by rfl)) | exact POp.quiet (QOp.pickOr (by rfl) (by rfl) (by rfl) (by rfl) (by rfl)) | exact POp.quiet (QOp.pickT (by rfl) (by rfl) (by with_reducible_and_instances assumption) (by rfl)) | exact POp.quiet (QOp.pickF (by rfl) (by rfl) (by with_reducible_and_instances assumption) (by rfl)) | exact POp.pcall (by rfl) Try.func110 rfl rfl (by rfl) (by first | exact clo_all (by rfl) | repeat' (first | exact clo_nil | refine clo_cons ?_ ?_ | exact clo_of (by rfl) | exact clo_fn _ | assumption)) (by first | exact isp_v_t _ _ (by assumption) | exact isp_v_f _ _ (by assumption) | exact isp_v _ _) (by first | exact clo_of (by rfl) | assumption)) ?_
          | refine DL.nil ?_)
        | ((with_reducible show AW _ _ _ _ _ _); first
          | refine AW.seq ?_
          | refine AW.region ?_
          | refine AW.skip ?_
          | refine AW.drawn (id := 6) 13 (by kernel_rfl) (by kernel_rfl) (by rfl) ?_
          | (refine AW.cond (by rfl) (fun h => ?_) ?_; rotate_left; focus (intro h; (try simp only [Bool.not_eq_true', Bool.not_eq_false'] at h); first | (cases h; done) | exact clash (by with_reducible_and_instances assumption) h | exact clash h (by with_reducible_and_instances assumption) | exact absurd h (by decide) | (refine absurd h ?_; simp; done)))
          | (refine AW.cond (by rfl) ?_ (fun h => ?_); focus (intro h; (try simp only [Bool.not_eq_true', Bool.not_eq_false'] at h); first | (cases h; done) | exact clash (by with_reducible_and_instances assumption) h | exact clash h (by with_reducible_and_instances assumption) | exact absurd h (by decide) | (refine absurd h ?_; simp; done)))
          | (refine AW.cond (by rfl) ?_ ?_ <;> (intro h; try simp only [Bool.not_eq_true', Bool.not_eq_false'] at h))
          | refine AW.block ?_
          | refine AW.exit ?_
          | refine AW.ret ?_)
        | with_reducible refine (if_pos rfl).mpr ?_
        | with_reducible refine (if_neg (by decide)).mpr ?_) <;> (try dsimp only [dput, List.set, cond_true, cond_false, Nat.zero_add, Nat.add_zero, Nat.reduceAdd, splice, List.take, List.drop, List.length, List.nil_append, List.cons_append, List.append, TPoint.en, TSegment.en, TBox.en, TFeature.en, TMeet.en, TPlace.en, TCover.en, TLabel.en, TPiece.en, TLevel.en, TChart.en, TReason.en, TEdit.en, TEntry.en, TEdition.en, TListing.en, TAtlas.en, TEvent.en, TWindow.en]))
      all_goals first
        | (refine ⟨i + 1, _, ⟨hlt, by simp_all⟩, by omega, ?_, rfl, ?_, ?_⟩; (focus ((repeat' (first | exact Wk.nil | refine Wk.any ?_ | (with_reducible refine Wk.same ?_) | refine Wk.of ?_ ?_)) <;> (simp_all))); (focus ((repeat' (first | exact Fits.nil _ | refine Fits.cons ?_ ?_ | exact Fits.any _ | exact Fits.c _ _ | exact Fits.own (by rfl) | exact Fits.ref (by rfl) | exact Fits.clo (by assumption) | exact Fits.clo (clo_of (by rfl)) | exact Fits.clo (clo_fn _))))); (focus (exact FitsM.nil _)))
        | exact Fin.one rfl (RV.tmp (by rfl)) (clo_c _) ⟨by have hn := ptsOk_not (n := l.length) (by simp_all : okAt l i = false) hlt; simp_all [isLine], rfl⟩
    · have ht := lt_false (f := TPoint.en) hlt
      have e : i = l.length := by omega
      subst e
      try rw [List.take_length]
      repeat' ((first
        | ((with_reducible show OpA _ _ _ _ _ _); first
          | refine OpA.q TT_ok (by rfl) ?_
          | (refine OpA.quiet (QOp.pickT (by rfl) (by rfl) ?_ (by rfl)) ?_; focus (first | (with_reducible rfl) | (with_reducible_and_instances assumption) | (simp only [Bool.not_eq_true', Bool.not_eq_false']; with_reducible_and_instances assumption)))
          | (refine OpA.quiet (QOp.pickF (by rfl) (by rfl) ?_ (by rfl)) ?_; focus (first | (with_reducible rfl) | (with_reducible_and_instances assumption) | (simp only [Bool.not_eq_true', Bool.not_eq_false']; with_reducible_and_instances assumption)))
          | refine OpA.quiet (QOp.atk_ro (by rfl) (by rfl) (by rfl) (TT_ok.sl _ _ (by rfl)) (Nat.le_of_ble_eq_true (by rfl)) (by first | assumption | omega) (by assumption)) ?_
          | refine OpA.quiet (QOp.ld1_ro (by rfl) (by rfl) (by assumption) (TT_ok.ld _ _ (by rfl)) (by rfl)) ?_
          | refine OpA.quiet (QOp.ldr_ro (by rfl) (by rfl) (by assumption) (TT_ok.ld _ _ (by rfl)) (Nat.le_of_ble_eq_true (by rfl))) ?_
          | refine OpA.quiet (QOp.at_own (by rfl) (TT_ok.sl _ _ (by rfl)) (by rfl) (by rfl) (by rfl) (by rfl) (by rfl) (by rfl) (by first | assumption | omega | decide) (by first | assumption | omega | decide)) ?_
          | refine OpA.quiet (QOp.len_own (by rfl) (TT_ok.sl _ _ (by rfl)) (by rfl) (by rfl) (by rfl) (by rfl)) ?_
          | refine OpA.quiet (QOp.sEq (by rfl) (by rfl) (by rfl) (by first | exact flk26.1 | exact flk109.1) (by rfl) (by rfl) (by rfl) (by rfl) (by rfl) (by rfl) (by rfl) (by rfl)) ?_
          | (refine OpA.quiet (QOp.cat (by rfl) (by rfl) (by rfl) (by first | assumption | (simp only [ByteArray.size_append, bs_size] at *; omega))) ?_)
          | refine OpA.allocA (by rfl) (by first | exact ze2 | exact ze3 | exact ze4 | exact ze6 | exact ze7 | exact ze8 | exact ze9 | exact ze10 | exact ze12 | exact ze13 | exact ze14 | exact ze15 | exact ze17 | exact ze18 | exact ze19 | exact ze21 | exact ze22 | exact ze23 | exact ze26 | exact ze29 | exact ze32 | exact ze36 | exact ze65 | exact ze66 | exact ze68 | exact ze74 | exact ze109) ?_
          | refine OpA.sto (by rfl) (by rfl) (by rfl) (by rfl) (by rfl) (by rfl) (by rfl) (by rfl) (TT_ok.ld _ _ (by rfl)) (by rfl) (Nat.le_of_ble_eq_true (by rfl)) ?_
          | refine OpA.sto (by rfl) (by rfl) (by rfl) (by rfl) (by rfl) (by assumption) (by rfl) (by rfl) (TT_ok.ld _ _ (by rfl)) (by rfl) (Nat.le_of_ble_eq_true (by rfl)) ?_
          | refine OpA.pcall (by rfl) Try.func110 rfl rfl (by rfl) (by first | exact clo_all (by rfl) | repeat' (first | exact clo_nil | refine clo_cons ?_ ?_ | exact clo_of (by rfl) | exact clo_fn _ | assumption)) (by first | exact isp_v_t _ _ (by assumption) | exact isp_v_f _ _ (by assumption) | exact isp_v _ _) (by first | exact clo_of (by rfl) | assumption) ?_
          | refine OpA.quiet (QOp.pickAnd (by rfl) (by rfl) (by rfl) (by rfl) (by rfl)) ?_
          | refine OpA.quiet (QOp.pickOr (by rfl) (by rfl) (by rfl) (by rfl) (by rfl)) ?_)
        | ((with_reducible show AL _ _ _ _ _ _ _); first
          | refine AL.q TT_ok rfl (by rfl) ?_
          | refine AL.step rfl ?_
          | refine AL.guardU (by rfl) (by rfl) (by rfl) (by rfl) ?_
          | refine AL.gF (by rfl) (by rfl) (by rfl) (by rfl) (by first | rfl | assumption) ?_
          | refine AL.gT (by rfl) (by rfl) (by rfl) (by rfl) (by first | rfl | assumption) ?_
          | refine AL.guardW (by rfl) (by rfl) (by rfl) (by rfl) (fun h => by (try rw [h]); first | exact OpA.quietW (QOp.quietA TT_ok (by rfl)) | exact OpA.pcall (by rfl) Try.func110 rfl rfl (by rfl) (by first | exact clo_all (by rfl) | repeat' (first | exact clo_nil | refine clo_cons ?_ ?_ | exact clo_of (by rfl) | exact clo_fn _ | assumption)) (by first | exact isp_v_t _ _ (by assumption) | exact isp_v_f _ _ (by assumption) | exact isp_v _ _) (by first | exact clo_of (by rfl) | assumption) ⟨by rfl, rfl⟩ | exact OpA.quietW (QOp.atk_ro (by rfl) (by rfl) (by rfl) (TT_ok.sl _ _ (by rfl)) (Nat.le_of_ble_eq_true (by rfl)) (by first | assumption | omega) (by assumption)) | exact OpA.quietW (QOp.ld1_ro (by rfl) (by rfl) (by assumption) (TT_ok.ld _ _ (by rfl)) (by rfl)) | exact OpA.quietW (QOp.ldr_ro (by rfl) (by rfl) (by assumption) (TT_ok.ld _ _ (by rfl)) (Nat.le_of_ble_eq_true (by rfl))) | exact OpA.quietW (QOp.at_own (by rfl) (TT_ok.sl _ _ (by rfl)) (by rfl) (by rfl) (by rfl) (by rfl) (by rfl) (by rfl) (by first | assumption | omega | decide) (by first | assumption | omega | decide)) | exact OpA.quietW (QOp.len_own (by rfl) (TT_ok.sl _ _ (by rfl)) (by rfl) (by rfl) (by rfl) (by rfl)) | exact OpA.quietW (QOp.sEq (by rfl) (by rfl) (by rfl) (by first | exact flk26.1 | exact flk109.1) (by rfl) (by rfl) (by rfl) (by rfl) (by rfl) (by rfl) (by rfl) (by rfl)) | exact OpA.quietW (QOp.cat (by rfl) (by rfl) (by rfl) (by first | assumption | (simp only [ByteArray.size_append, bs_size] at *; omega))) | exact OpA.quietW (QOp.pickAnd (by rfl) (by rfl) (by rfl) (by rfl) (by rfl)) | exact OpA.quietW (QOp.pickOr (by rfl) (by rfl) (by rfl) (by rfl) (by rfl))) ?_
          | (refine AL.guardT (by rfl) (by rfl) (by rfl) (by rfl) (fun h => ?_) ?_; rotate_left; focus (intro h; (try simp only [Bool.not_eq_true', Bool.not_eq_false'] at h); first | (cases h; done) | exact clash (by with_reducible_and_instances assumption) h | exact clash h (by with_reducible_and_instances assumption) | exact absurd h (by decide) | (refine absurd h ?_; simp; done)))
          | (refine AL.guardT (by rfl) (by rfl) (by rfl) (by rfl) ?_ (fun h => ?_); focus (intro h; (try simp only [Bool.not_eq_true', Bool.not_eq_false'] at h); first | (cases h; done) | exact clash (by with_reducible_and_instances assumption) h | exact clash h (by with_reducible_and_instances assumption) | exact absurd h (by decide) | (refine absurd h ?_; simp; done)))
          | (refine AL.guardT (by rfl) (by rfl) (by rfl) (by rfl) ?_ ?_ <;> (intro h; try simp only [Bool.not_eq_true', Bool.not_eq_false'] at h))
          | (refine AL.guardF (by rfl) (by rfl) (by rfl) (by rfl) (fun h => ?_) ?_; rotate_left; focus (intro h; (try simp only [Bool.not_eq_true', Bool.not_eq_false'] at h); first | (cases h; done) | exact clash (by with_reducible_and_instances assumption) h | exact clash h (by with_reducible_and_instances assumption) | exact absurd h (by decide) | (refine absurd h ?_; simp; done)))
          | (refine AL.guardF (by rfl) (by rfl) (by rfl) (by rfl) ?_ (fun h => ?_); focus (intro h; (try simp only [Bool.not_eq_true', Bool.not_eq_false'] at h); first | (cases h; done) | exact clash (by with_reducible_and_instances assumption) h | exact clash h (by with_reducible_and_instances assumption) | exact absurd h (by decide) | (refine absurd h ?_; simp; done)))
          | (refine AL.guardF (by rfl) (by rfl) (by rfl) (by rfl) ?_ ?_ <;> (intro h; try simp only [Bool.not_eq_true', Bool.not_eq_false'] at h))
          | refine AL.nil ?_)
        | ((with_reducible show DL _ _ _ _ _ _ _); first
          | refine DL.q TT_ok rfl (by rfl) ?_
          | refine DL.p rfl (POp.quiet (QOp.atk_ro (by rfl) (by rfl) (by rfl) (TT_ok.sl _ _ (by rfl)) (Nat.le_of_ble_eq_true (by rfl)) (by first | assumption | omega) (by assumption))) ?_
          | refine DL.p rfl (POp.quiet (QOp.ld1_ro (by rfl) (by rfl) (by assumption) (TT_ok.ld _ _ (by rfl)) (by rfl))) ?_
          | refine DL.p rfl (POp.quiet (QOp.ldr_ro (by rfl) (by rfl) (by assumption) (TT_ok.ld _ _ (by rfl)) (Nat.le_of_ble_eq_true (by rfl)))) ?_
          | refine DL.p rfl (POp.quiet (QOp.at_own (by rfl) (TT_ok.sl _ _ (by rfl)) (by rfl) (by rfl) (by rfl) (by rfl) (by rfl) (by rfl) (by first | assumption | omega | decide) (by first | assumption | omega | decide))) ?_
          | refine DL.p rfl (POp.quiet (QOp.len_own (by rfl) (TT_ok.sl _ _ (by rfl)) (by rfl) (by rfl) (by rfl) (by rfl))) ?_
          | refine DL.p rfl (POp.quiet (QOp.sEq (by rfl) (by rfl) (by rfl) (by first | exact flk26.1 | exact flk109.1) (by rfl) (by rfl) (by rfl) (by rfl) (by rfl) (by rfl) (by rfl) (by rfl))) ?_
          | (refine DL.p rfl (POp.quiet (QOp.cat (by rfl) (by rfl) (by rfl) (by first | assumption | (simp only [ByteArray.size_append, bs_size] at *; omega)))) ?_)
          | refine DL.p rfl (POp.quiet (QOp.pickAnd (by rfl) (by rfl) (by rfl) (by rfl) (by rfl))) ?_
          | refine DL.p rfl (POp.quiet (QOp.pickOr (by rfl) (by rfl) (by rfl) (by rfl) (by rfl))) ?_
          | refine DL.p rfl (POp.quiet (QOp.pickT (by rfl) (by rfl) (by with_reducible_and_instances assumption) (by rfl))) ?_
          | refine DL.p rfl (POp.quiet (QOp.pickF (by rfl) (by rfl) (by with_reducible_and_instances assumption) (by rfl))) ?_
          | refine DL.p rfl (POp.pcall (by rfl) Try.func110 rfl rfl (by rfl) (by first | exact clo_all (by rfl) | repeat' (first | exact clo_nil | refine clo_cons ?_ ?_ | exact clo_of (by rfl) | exact clo_fn _ | assumption)) (by first | exact isp_v_t _ _ (by assumption) | exact isp_v_f _ _ (by assumption) | exact isp_v _ _) (by first | exact clo_of (by rfl) | assumption)) ?_
          | refine DL.gU (by rfl) (by rfl) (by rfl) (by rfl) ?_
          | refine DL.gF (by rfl) (by rfl) (by rfl) (by rfl) (by first | rfl | assumption) ?_
          | refine DL.gT (by rfl) (by rfl) (by rfl) (by rfl) (by first | rfl | assumption) (POp.q TT_ok (by rfl)) ?_
          | refine DL.gT (by rfl) (by rfl) (by rfl) (by rfl) (by first | rfl | assumption) (POp.quiet (QOp.atk_ro (by rfl) (by rfl) (by rfl) (TT_ok.sl _ _ (by rfl)) (Nat.le_of_ble_eq_true (by rfl)) (by first | assumption | omega) (by assumption))) ?_
          | refine DL.gT (by rfl) (by rfl) (by rfl) (by rfl) (by first | rfl | assumption) (POp.quiet (QOp.ld1_ro (by rfl) (by rfl) (by assumption) (TT_ok.ld _ _ (by rfl)) (by rfl))) ?_
          | refine DL.gT (by rfl) (by rfl) (by rfl) (by rfl) (by first | rfl | assumption) (POp.quiet (QOp.ldr_ro (by rfl) (by rfl) (by assumption) (TT_ok.ld _ _ (by rfl)) (Nat.le_of_ble_eq_true (by rfl)))) ?_
          | refine DL.gT (by rfl) (by rfl) (by rfl) (by rfl) (by first | rfl | assumption) (POp.quiet (QOp.at_own (by rfl) (TT_ok.sl _ _ (by rfl)) (by rfl) (by rfl) (by rfl) (by rfl) (by rfl) (by rfl) (by first | assumption | omega | decide) (by first | assumption | omega | decide))) ?_
          | refine DL.gT (by rfl) (by rfl) (by rfl) (by rfl) (by first | rfl | assumption) (POp.quiet (QOp.len_own (by rfl) (TT_ok.sl _ _ (by rfl)) (by rfl) (by rfl) (by rfl) (by rfl))) ?_
          | refine DL.gT (by rfl) (by rfl) (by rfl) (by rfl) (by first | rfl | assumption) (POp.quiet (QOp.sEq (by rfl) (by rfl) (by rfl) (by first | exact flk26.1 | exact flk109.1) (by rfl) (by rfl) (by rfl) (by rfl) (by rfl) (by rfl) (by rfl) (by rfl))) ?_
          | (refine DL.gT (by rfl) (by rfl) (by rfl) (by rfl) (by first | rfl | assumption) (POp.quiet (QOp.cat (by rfl) (by rfl) (by rfl) (by first | assumption | (simp only [ByteArray.size_append, bs_size] at *; omega)))) ?_)
          | refine DL.gT (by rfl) (by rfl) (by rfl) (by rfl) (by first | rfl | assumption) (POp.quiet (QOp.pickAnd (by rfl) (by rfl) (by rfl) (by rfl) (by rfl))) ?_
          | refine DL.gT (by rfl) (by rfl) (by rfl) (by rfl) (by first | rfl | assumption) (POp.quiet (QOp.pickOr (by rfl) (by rfl) (by rfl) (by rfl) (by rfl))) ?_
          | refine DL.gT (by rfl) (by rfl) (by rfl) (by rfl) (by first | rfl | assumption) (POp.quiet (QOp.pickT (by rfl) (by rfl) (by with_reducible_and_instances assumption) (by rfl))) ?_
          | refine DL.gT (by rfl) (by rfl) (by rfl) (by rfl) (by first | rfl | assumption) (POp.quiet (QOp.pickF (by rfl) (by rfl) (by with_reducible_and_instances assumption) (by rfl))) ?_
          | refine DL.gT (by rfl) (by rfl) (by rfl) (by rfl) (by first | rfl | assumption) (POp.pcall (by rfl) Try.func110 rfl rfl (by rfl) (by first | exact clo_all (by rfl) | repeat' (first | exact clo_nil | refine clo_cons ?_ ?_ | exact clo_of (by rfl) | exact clo_fn _ | assumption)) (by first | exact isp_v_t _ _ (by assumption) | exact isp_v_f _ _ (by assumption) | exact isp_v _ _) (by first | exact clo_of (by rfl) | assumption)) ?_
          | refine DL.g (by rfl) (by rfl) (by rfl) (by rfl) (fun h => by (try rw [h]); first | exact POp.q TT_ok (by rfl) | exact POp.quiet (QOp.atk_ro (by rfl) (by rfl) (by rfl) (TT_ok.sl _ _ (by rfl)) (Nat.le_of_ble_eq_true (by rfl)) (by first | assumption | omega) (by assumption)) | exact POp.quiet (QOp.ld1_ro (by rfl) (by rfl) (by assumption) (TT_ok.ld _ _ (by rfl)) (by rfl)) | exact POp.quiet (QOp.ldr_ro (by rfl) (by rfl) (by assumption) (TT_ok.ld _ _ (by rfl)) (Nat.le_of_ble_eq_true (by rfl))) | exact POp.quiet (QOp.at_own (by rfl) (TT_ok.sl _ _ (by rfl)) (by rfl) (by rfl) (by rfl) (by rfl) (by rfl) (by rfl) (by first | assumption | omega | decide) (by first | assumption | omega | decide)) | exact POp.quiet (QOp.len_own (by rfl) (TT_ok.sl _ _ (by rfl)) (by rfl) (by rfl) (by rfl) (by rfl)) | exact POp.quiet (QOp.sEq (by rfl) (by rfl) (by rfl) (by first | exact flk26.1 | exact flk109.1) (by rfl) (by rfl) (by rfl) (by rfl) (by rfl) (by rfl) (by rfl) (by rfl)) | exact POp.quiet (QOp.cat (by rfl) (by rfl) (by rfl) (by first | assumption | (simp only [ByteArray.size_append, bs_size] at *; omega))) | exact POp.quiet (QOp.pickAnd (by rfl) (by rfl) (by rfl) (by rfl) (by rfl)) | exact POp.quiet (QOp.pickOr (by rfl) (by rfl) (by rfl) (by rfl) (by rfl)) | exact POp.quiet (QOp.pickT (by rfl) (by rfl) (by with_reducible_and_instances assumption) (by rfl)) | exact POp.quiet (QOp.pickF (by rfl) (by rfl) (by with_reducible_and_instances assumption) (by rfl)) | exact POp.pcall (by rfl) Try.func110 rfl rfl (by rfl) (by first | exact clo_all (by rfl) | repeat' (first | exact clo_nil | refine clo_cons ?_ ?_ | exact clo_of (by rfl) | exact clo_fn _ | assumption)) (by first | exact isp_v_t _ _ (by assumption) | exact isp_v_f _ _ (by assumption) | exact isp_v _ _) (by first | exact clo_of (by rfl) | assumption)) ?_
          | refine DL.nil ?_)
        | ((with_reducible show AW _ _ _ _ _ _); first
          | refine AW.seq ?_
          | refine AW.region ?_
          | refine AW.skip ?_
          | refine AW.drawn (id := 6) 13 (by kernel_rfl) (by kernel_rfl) (by rfl) ?_
          | (refine AW.cond (by rfl) (fun h => ?_) ?_; rotate_left; focus (intro h; (try simp only [Bool.not_eq_true', Bool.not_eq_false'] at h); first | (cases h; done) | exact clash (by with_reducible_and_instances assumption) h | exact clash h (by with_reducible_and_instances assumption) | exact absurd h (by decide) | (refine absurd h ?_; simp; done)))
          | (refine AW.cond (by rfl) ?_ (fun h => ?_); focus (intro h; (try simp only [Bool.not_eq_true', Bool.not_eq_false'] at h); first | (cases h; done) | exact clash (by with_reducible_and_instances assumption) h | exact clash h (by with_reducible_and_instances assumption) | exact absurd h (by decide) | (refine absurd h ?_; simp; done)))
          | (refine AW.cond (by rfl) ?_ ?_ <;> (intro h; try simp only [Bool.not_eq_true', Bool.not_eq_false'] at h))
          | refine AW.block ?_
          | refine AW.exit ?_
          | refine AW.ret ?_)
        | with_reducible refine (if_pos rfl).mpr ?_
        | with_reducible refine (if_neg (by decide)).mpr ?_) <;> (try dsimp only [dput, List.set, cond_true, cond_false, Nat.zero_add, Nat.add_zero, Nat.reduceAdd, splice, List.take, List.drop, List.length, List.nil_append, List.cons_append, List.append, TPoint.en, TSegment.en, TBox.en, TFeature.en, TMeet.en, TPlace.en, TCover.en, TLabel.en, TPiece.en, TLevel.en, TChart.en, TReason.en, TEdit.en, TEntry.en, TEdition.en, TListing.en, TAtlas.en, TEvent.en, TWindow.en]))
      all_goals exact Fin.one rfl (RV.tmp (by rfl)) (clo_c _) ⟨by simp_all [isLine, inr] <;> omega, rfl⟩

set_option maxRecDepth 100000 in
set_option maxHeartbeats 2000000 in
theorem steps_i (a b c d : Int) : VCalls Try.prog 85 [.agg [I a, I b], .agg [I c, I d]] (fun r M => r = I (stepsB a b c d) ∧ M = []) := by
  refine VCalls.body Try.func85 rfl 34 rfl (fun E => ?_)
  simp only [List.reduceReplicate, List.cons_append, List.nil_append]
  repeat' ((first
    | ((with_reducible show OpA _ _ _ _ _ _); first
      | refine OpA.q TT_ok (by rfl) ?_
      | (refine OpA.quiet (QOp.pickT (by rfl) (by rfl) ?_ (by rfl)) ?_; focus (first | (with_reducible rfl) | (with_reducible_and_instances assumption) | (simp only [Bool.not_eq_true', Bool.not_eq_false']; with_reducible_and_instances assumption)))
      | (refine OpA.quiet (QOp.pickF (by rfl) (by rfl) ?_ (by rfl)) ?_; focus (first | (with_reducible rfl) | (with_reducible_and_instances assumption) | (simp only [Bool.not_eq_true', Bool.not_eq_false']; with_reducible_and_instances assumption)))
      | refine OpA.quiet (QOp.ld1_ro (by rfl) (by rfl) (by assumption) (TT_ok.ld _ _ (by rfl)) (by rfl)) ?_
      | refine OpA.quiet (QOp.ldr_ro (by rfl) (by rfl) (by assumption) (TT_ok.ld _ _ (by rfl)) (Nat.le_of_ble_eq_true (by rfl))) ?_
      | (refine OpA.quiet (QOp.cat (by rfl) (by rfl) (by rfl) (by first | assumption | (simp only [ByteArray.size_append, bs_size] at *; omega))) ?_)
      | refine OpA.box (by rfl) (by rfl) (by rfl) ?_
      | refine OpA.pcall (by rfl) Try.func110 rfl rfl (by rfl) (by first | exact clo_all (by rfl) | repeat' (first | exact clo_nil | refine clo_cons ?_ ?_ | exact clo_of (by rfl) | exact clo_fn _ | assumption)) (by first | exact isp_v_t _ _ (by assumption) | exact isp_v_f _ _ (by assumption) | exact isp_v _ _) (by first | exact clo_of (by rfl) | assumption) ?_
      | refine OpA.quiet (QOp.pickAnd (by rfl) (by rfl) (by rfl) (by rfl) (by rfl)) ?_
      | refine OpA.quiet (QOp.pickOr (by rfl) (by rfl) (by rfl) (by rfl) (by rfl)) ?_)
    | ((with_reducible show AL _ _ _ _ _ _ _); first
      | refine AL.q TT_ok rfl (by rfl) ?_
      | refine AL.step rfl ?_
      | refine AL.guardU (by rfl) (by rfl) (by rfl) (by rfl) ?_
      | refine AL.gF (by rfl) (by rfl) (by rfl) (by rfl) (by first | rfl | assumption) ?_
      | refine AL.gT (by rfl) (by rfl) (by rfl) (by rfl) (by first | rfl | assumption) ?_
      | refine AL.guardW (by rfl) (by rfl) (by rfl) (by rfl) (fun h => by (try rw [h]); first | exact OpA.quietW (QOp.quietA TT_ok (by rfl)) | exact OpA.pcall (by rfl) Try.func110 rfl rfl (by rfl) (by first | exact clo_all (by rfl) | repeat' (first | exact clo_nil | refine clo_cons ?_ ?_ | exact clo_of (by rfl) | exact clo_fn _ | assumption)) (by first | exact isp_v_t _ _ (by assumption) | exact isp_v_f _ _ (by assumption) | exact isp_v _ _) (by first | exact clo_of (by rfl) | assumption) ⟨by rfl, rfl⟩ | exact OpA.quietW (QOp.ld1_ro (by rfl) (by rfl) (by assumption) (TT_ok.ld _ _ (by rfl)) (by rfl)) | exact OpA.quietW (QOp.ldr_ro (by rfl) (by rfl) (by assumption) (TT_ok.ld _ _ (by rfl)) (Nat.le_of_ble_eq_true (by rfl))) | exact OpA.quietW (QOp.cat (by rfl) (by rfl) (by rfl) (by first | assumption | (simp only [ByteArray.size_append, bs_size] at *; omega))) | exact OpA.quietW (QOp.pickAnd (by rfl) (by rfl) (by rfl) (by rfl) (by rfl)) | exact OpA.quietW (QOp.pickOr (by rfl) (by rfl) (by rfl) (by rfl) (by rfl))) ?_
      | (refine AL.guardT (by rfl) (by rfl) (by rfl) (by rfl) (fun h => ?_) ?_; rotate_left; focus (intro h; (try simp only [Bool.not_eq_true', Bool.not_eq_false'] at h); first | (cases h; done) | exact clash (by with_reducible_and_instances assumption) h | exact clash h (by with_reducible_and_instances assumption) | exact absurd h (by decide) | (refine absurd h ?_; simp; done)))
      | (refine AL.guardT (by rfl) (by rfl) (by rfl) (by rfl) ?_ (fun h => ?_); focus (intro h; (try simp only [Bool.not_eq_true', Bool.not_eq_false'] at h); first | (cases h; done) | exact clash (by with_reducible_and_instances assumption) h | exact clash h (by with_reducible_and_instances assumption) | exact absurd h (by decide) | (refine absurd h ?_; simp; done)))
      | (refine AL.guardT (by rfl) (by rfl) (by rfl) (by rfl) ?_ ?_ <;> (intro h; try simp only [Bool.not_eq_true', Bool.not_eq_false'] at h))
      | (refine AL.guardF (by rfl) (by rfl) (by rfl) (by rfl) (fun h => ?_) ?_; rotate_left; focus (intro h; (try simp only [Bool.not_eq_true', Bool.not_eq_false'] at h); first | (cases h; done) | exact clash (by with_reducible_and_instances assumption) h | exact clash h (by with_reducible_and_instances assumption) | exact absurd h (by decide) | (refine absurd h ?_; simp; done)))
      | (refine AL.guardF (by rfl) (by rfl) (by rfl) (by rfl) ?_ (fun h => ?_); focus (intro h; (try simp only [Bool.not_eq_true', Bool.not_eq_false'] at h); first | (cases h; done) | exact clash (by with_reducible_and_instances assumption) h | exact clash h (by with_reducible_and_instances assumption) | exact absurd h (by decide) | (refine absurd h ?_; simp; done)))
      | (refine AL.guardF (by rfl) (by rfl) (by rfl) (by rfl) ?_ ?_ <;> (intro h; try simp only [Bool.not_eq_true', Bool.not_eq_false'] at h))
      | refine AL.nil ?_)
    | ((with_reducible show AW _ _ _ _ _ _); first
      | refine AW.seq ?_
      | refine AW.region ?_
      | refine AW.skip ?_
      | (refine AW.cond (by rfl) (fun h => ?_) ?_; rotate_left; focus (intro h; (try simp only [Bool.not_eq_true', Bool.not_eq_false'] at h); first | (cases h; done) | exact clash (by with_reducible_and_instances assumption) h | exact clash h (by with_reducible_and_instances assumption) | exact absurd h (by decide) | (refine absurd h ?_; simp; done)))
      | (refine AW.cond (by rfl) ?_ (fun h => ?_); focus (intro h; (try simp only [Bool.not_eq_true', Bool.not_eq_false'] at h); first | (cases h; done) | exact clash (by with_reducible_and_instances assumption) h | exact clash h (by with_reducible_and_instances assumption) | exact absurd h (by decide) | (refine absurd h ?_; simp; done)))
      | (refine AW.cond (by rfl) ?_ ?_ <;> (intro h; try simp only [Bool.not_eq_true', Bool.not_eq_false'] at h))
      | refine AW.ret ?_)
    | with_reducible refine (if_pos rfl).mpr ?_
    | with_reducible refine (if_neg (by decide)).mpr ?_) <;> (try dsimp only [dput, List.set, cond_true, cond_false, Nat.zero_add, Nat.add_zero, Nat.reduceAdd, splice, List.take, List.drop, List.length, List.nil_append, List.cons_append, List.append, TPoint.en, TSegment.en, TBox.en, TFeature.en, TMeet.en, TPlace.en, TCover.en, TLabel.en, TPiece.en, TLevel.en, TChart.en, TReason.en, TEdit.en, TEntry.en, TEdition.en, TListing.en, TAtlas.en, TEvent.en, TWindow.en]))
  all_goals exact Fin.one rfl (RV.tmp (by rfl)) (clo_c _) ⟨by first | rfl | (simp_all [stepsB, wmax]; done) | (simp only [stepsB, wmax]; split <;> simp_all <;> omega), rfl⟩

set_option maxRecDepth 100000 in
set_option maxHeartbeats 2000000 in
theorem max_s (a b : Int) : VCalls Try.prog 47 [I a, I b] (fun r M => r = I (wmax a b) ∧ M = []) := by
  refine VCalls.body Try.func47 rfl 8 rfl (fun E => ?_)
  simp only [List.reduceReplicate, List.cons_append, List.nil_append]
  repeat' ((first
    | ((with_reducible show AL _ _ _ _ _ _ _); first
      | refine AL.q TT_ok rfl (by rfl) ?_
      | refine AL.step rfl ?_
      | refine AL.nil ?_)
    | ((with_reducible show AW _ _ _ _ _ _); first
      | refine AW.seq ?_
      | refine AW.region ?_
      | refine AW.skip ?_
      | (refine AW.cond (by rfl) (fun h => ?_) ?_; rotate_left; focus (intro h; (try simp only [Bool.not_eq_true', Bool.not_eq_false'] at h); first | (cases h; done) | exact clash (by with_reducible_and_instances assumption) h | exact clash h (by with_reducible_and_instances assumption) | exact absurd h (by decide) | (refine absurd h ?_; simp; done)))
      | (refine AW.cond (by rfl) ?_ (fun h => ?_); focus (intro h; (try simp only [Bool.not_eq_true', Bool.not_eq_false'] at h); first | (cases h; done) | exact clash (by with_reducible_and_instances assumption) h | exact clash h (by with_reducible_and_instances assumption) | exact absurd h (by decide) | (refine absurd h ?_; simp; done)))
      | (refine AW.cond (by rfl) ?_ ?_ <;> (intro h; try simp only [Bool.not_eq_true', Bool.not_eq_false'] at h))
      | refine AW.ret ?_)
    | with_reducible refine (if_pos rfl).mpr ?_
    | with_reducible refine (if_neg (by decide)).mpr ?_) <;> (try dsimp only [dput, List.set, cond_true, cond_false, Nat.zero_add, Nat.add_zero, Nat.reduceAdd, splice, List.take, List.drop, List.length, List.nil_append, List.cons_append, List.append, TPoint.en, TSegment.en, TBox.en, TFeature.en, TMeet.en, TPlace.en, TCover.en, TLabel.en, TPiece.en, TLevel.en, TChart.en, TReason.en, TEdit.en, TEntry.en, TEdition.en, TListing.en, TAtlas.en, TEvent.en, TWindow.en]))
  all_goals exact Fin.one rfl (RV.tmp (by rfl)) (clo_c _) ⟨by first | rfl | (simp_all [wmax]; done) | (simp only [wmax]; split <;> simp_all <;> omega), rfl⟩

set_option maxRecDepth 100000 in
set_option maxHeartbeats 2000000 in
theorem steps_s (a b c d : Int) : VCalls Try.prog 82 [.agg [I a, I b], .agg [I c, I d]] (fun r M => r = I (stepsB a b c d) ∧ M = []) := by
  refine VCalls.body Try.func82 rfl 34 rfl (fun E => ?_)
  simp only [List.reduceReplicate, List.cons_append, List.nil_append]
  repeat' ((first
    | ((with_reducible show OpA _ _ _ _ _ _); first
      | refine OpA.q TT_ok (by rfl) ?_
      | (refine OpA.quiet (QOp.pickT (by rfl) (by rfl) ?_ (by rfl)) ?_; focus (first | (with_reducible rfl) | (with_reducible_and_instances assumption) | (simp only [Bool.not_eq_true', Bool.not_eq_false']; with_reducible_and_instances assumption)))
      | (refine OpA.quiet (QOp.pickF (by rfl) (by rfl) ?_ (by rfl)) ?_; focus (first | (with_reducible rfl) | (with_reducible_and_instances assumption) | (simp only [Bool.not_eq_true', Bool.not_eq_false']; with_reducible_and_instances assumption)))
      | refine OpA.quiet (QOp.ld1_ro (by rfl) (by rfl) (by assumption) (TT_ok.ld _ _ (by rfl)) (by rfl)) ?_
      | refine OpA.quiet (QOp.ldr_ro (by rfl) (by rfl) (by assumption) (TT_ok.ld _ _ (by rfl)) (Nat.le_of_ble_eq_true (by rfl))) ?_
      | (refine OpA.quiet (QOp.cat (by rfl) (by rfl) (by rfl) (by first | assumption | (simp only [ByteArray.size_append, bs_size] at *; omega))) ?_)
      | refine OpA.box (by rfl) (by rfl) (by rfl) ?_
      | refine OpA.pcall (by rfl) Try.func47 rfl rfl (by rfl) (by first | exact clo_all (by rfl) | repeat' (first | exact clo_nil | refine clo_cons ?_ ?_ | exact clo_of (by rfl) | exact clo_fn _ | assumption)) (max_s _ _) (by first | exact clo_of (by rfl) | assumption) ?_
      | refine OpA.pcall (by rfl) Try.func107 rfl rfl (by rfl) (by first | exact clo_all (by rfl) | repeat' (first | exact clo_nil | refine clo_cons ?_ ?_ | exact clo_of (by rfl) | exact clo_fn _ | assumption)) (by first | exact isp_s_t _ _ (by assumption) | exact isp_s_f _ _ (by assumption) | exact isp_s _ _) (by first | exact clo_of (by rfl) | assumption) ?_
      | refine OpA.quiet (QOp.pickAnd (by rfl) (by rfl) (by rfl) (by rfl) (by rfl)) ?_
      | refine OpA.quiet (QOp.pickOr (by rfl) (by rfl) (by rfl) (by rfl) (by rfl)) ?_)
    | ((with_reducible show AL _ _ _ _ _ _ _); first
      | refine AL.q TT_ok rfl (by rfl) ?_
      | refine AL.step rfl ?_
      | refine AL.guardU (by rfl) (by rfl) (by rfl) (by rfl) ?_
      | refine AL.gF (by rfl) (by rfl) (by rfl) (by rfl) (by first | rfl | assumption) ?_
      | refine AL.gT (by rfl) (by rfl) (by rfl) (by rfl) (by first | rfl | assumption) ?_
      | refine AL.guardW (by rfl) (by rfl) (by rfl) (by rfl) (fun h => by (try rw [h]); first | exact OpA.quietW (QOp.quietA TT_ok (by rfl)) | exact OpA.pcall (by rfl) Try.func47 rfl rfl (by rfl) (by first | exact clo_all (by rfl) | repeat' (first | exact clo_nil | refine clo_cons ?_ ?_ | exact clo_of (by rfl) | exact clo_fn _ | assumption)) (max_s _ _) (by first | exact clo_of (by rfl) | assumption) ⟨by rfl, rfl⟩ | exact OpA.pcall (by rfl) Try.func107 rfl rfl (by rfl) (by first | exact clo_all (by rfl) | repeat' (first | exact clo_nil | refine clo_cons ?_ ?_ | exact clo_of (by rfl) | exact clo_fn _ | assumption)) (by first | exact isp_s_t _ _ (by assumption) | exact isp_s_f _ _ (by assumption) | exact isp_s _ _) (by first | exact clo_of (by rfl) | assumption) ⟨by rfl, rfl⟩ | exact OpA.quietW (QOp.ld1_ro (by rfl) (by rfl) (by assumption) (TT_ok.ld _ _ (by rfl)) (by rfl)) | exact OpA.quietW (QOp.ldr_ro (by rfl) (by rfl) (by assumption) (TT_ok.ld _ _ (by rfl)) (Nat.le_of_ble_eq_true (by rfl))) | exact OpA.quietW (QOp.cat (by rfl) (by rfl) (by rfl) (by first | assumption | (simp only [ByteArray.size_append, bs_size] at *; omega))) | exact OpA.quietW (QOp.pickAnd (by rfl) (by rfl) (by rfl) (by rfl) (by rfl)) | exact OpA.quietW (QOp.pickOr (by rfl) (by rfl) (by rfl) (by rfl) (by rfl))) ?_
      | (refine AL.guardT (by rfl) (by rfl) (by rfl) (by rfl) (fun h => ?_) ?_; rotate_left; focus (intro h; (try simp only [Bool.not_eq_true', Bool.not_eq_false'] at h); first | (cases h; done) | exact clash (by with_reducible_and_instances assumption) h | exact clash h (by with_reducible_and_instances assumption) | exact absurd h (by decide) | (refine absurd h ?_; simp; done)))
      | (refine AL.guardT (by rfl) (by rfl) (by rfl) (by rfl) ?_ (fun h => ?_); focus (intro h; (try simp only [Bool.not_eq_true', Bool.not_eq_false'] at h); first | (cases h; done) | exact clash (by with_reducible_and_instances assumption) h | exact clash h (by with_reducible_and_instances assumption) | exact absurd h (by decide) | (refine absurd h ?_; simp; done)))
      | (refine AL.guardT (by rfl) (by rfl) (by rfl) (by rfl) ?_ ?_ <;> (intro h; try simp only [Bool.not_eq_true', Bool.not_eq_false'] at h))
      | (refine AL.guardF (by rfl) (by rfl) (by rfl) (by rfl) (fun h => ?_) ?_; rotate_left; focus (intro h; (try simp only [Bool.not_eq_true', Bool.not_eq_false'] at h); first | (cases h; done) | exact clash (by with_reducible_and_instances assumption) h | exact clash h (by with_reducible_and_instances assumption) | exact absurd h (by decide) | (refine absurd h ?_; simp; done)))
      | (refine AL.guardF (by rfl) (by rfl) (by rfl) (by rfl) ?_ (fun h => ?_); focus (intro h; (try simp only [Bool.not_eq_true', Bool.not_eq_false'] at h); first | (cases h; done) | exact clash (by with_reducible_and_instances assumption) h | exact clash h (by with_reducible_and_instances assumption) | exact absurd h (by decide) | (refine absurd h ?_; simp; done)))
      | (refine AL.guardF (by rfl) (by rfl) (by rfl) (by rfl) ?_ ?_ <;> (intro h; try simp only [Bool.not_eq_true', Bool.not_eq_false'] at h))
      | refine AL.nil ?_)
    | ((with_reducible show DL _ _ _ _ _ _ _); first
      | refine DL.q TT_ok rfl (by rfl) ?_
      | refine DL.p rfl (POp.quiet (QOp.ld1_ro (by rfl) (by rfl) (by assumption) (TT_ok.ld _ _ (by rfl)) (by rfl))) ?_
      | refine DL.p rfl (POp.quiet (QOp.ldr_ro (by rfl) (by rfl) (by assumption) (TT_ok.ld _ _ (by rfl)) (Nat.le_of_ble_eq_true (by rfl)))) ?_
      | (refine DL.p rfl (POp.quiet (QOp.cat (by rfl) (by rfl) (by rfl) (by first | assumption | (simp only [ByteArray.size_append, bs_size] at *; omega)))) ?_)
      | refine DL.p rfl (POp.quiet (QOp.pickAnd (by rfl) (by rfl) (by rfl) (by rfl) (by rfl))) ?_
      | refine DL.p rfl (POp.quiet (QOp.pickOr (by rfl) (by rfl) (by rfl) (by rfl) (by rfl))) ?_
      | refine DL.p rfl (POp.quiet (QOp.pickT (by rfl) (by rfl) (by with_reducible_and_instances assumption) (by rfl))) ?_
      | refine DL.p rfl (POp.quiet (QOp.pickF (by rfl) (by rfl) (by with_reducible_and_instances assumption) (by rfl))) ?_
      | refine DL.p rfl (POp.pcall (by rfl) Try.func47 rfl rfl (by rfl) (by first | exact clo_all (by rfl) | repeat' (first | exact clo_nil | refine clo_cons ?_ ?_ | exact clo_of (by rfl) | exact clo_fn _ | assumption)) (max_s _ _) (by first | exact clo_of (by rfl) | assumption)) ?_
      | refine DL.p rfl (POp.pcall (by rfl) Try.func107 rfl rfl (by rfl) (by first | exact clo_all (by rfl) | repeat' (first | exact clo_nil | refine clo_cons ?_ ?_ | exact clo_of (by rfl) | exact clo_fn _ | assumption)) (by first | exact isp_s_t _ _ (by assumption) | exact isp_s_f _ _ (by assumption) | exact isp_s _ _) (by first | exact clo_of (by rfl) | assumption)) ?_
      | refine DL.gU (by rfl) (by rfl) (by rfl) (by rfl) ?_
      | refine DL.gF (by rfl) (by rfl) (by rfl) (by rfl) (by first | rfl | assumption) ?_
      | refine DL.gT (by rfl) (by rfl) (by rfl) (by rfl) (by first | rfl | assumption) (POp.q TT_ok (by rfl)) ?_
      | refine DL.gT (by rfl) (by rfl) (by rfl) (by rfl) (by first | rfl | assumption) (POp.quiet (QOp.ld1_ro (by rfl) (by rfl) (by assumption) (TT_ok.ld _ _ (by rfl)) (by rfl))) ?_
      | refine DL.gT (by rfl) (by rfl) (by rfl) (by rfl) (by first | rfl | assumption) (POp.quiet (QOp.ldr_ro (by rfl) (by rfl) (by assumption) (TT_ok.ld _ _ (by rfl)) (Nat.le_of_ble_eq_true (by rfl)))) ?_
      | (refine DL.gT (by rfl) (by rfl) (by rfl) (by rfl) (by first | rfl | assumption) (POp.quiet (QOp.cat (by rfl) (by rfl) (by rfl) (by first | assumption | (simp only [ByteArray.size_append, bs_size] at *; omega)))) ?_)
      | refine DL.gT (by rfl) (by rfl) (by rfl) (by rfl) (by first | rfl | assumption) (POp.quiet (QOp.pickAnd (by rfl) (by rfl) (by rfl) (by rfl) (by rfl))) ?_
      | refine DL.gT (by rfl) (by rfl) (by rfl) (by rfl) (by first | rfl | assumption) (POp.quiet (QOp.pickOr (by rfl) (by rfl) (by rfl) (by rfl) (by rfl))) ?_
      | refine DL.gT (by rfl) (by rfl) (by rfl) (by rfl) (by first | rfl | assumption) (POp.quiet (QOp.pickT (by rfl) (by rfl) (by with_reducible_and_instances assumption) (by rfl))) ?_
      | refine DL.gT (by rfl) (by rfl) (by rfl) (by rfl) (by first | rfl | assumption) (POp.quiet (QOp.pickF (by rfl) (by rfl) (by with_reducible_and_instances assumption) (by rfl))) ?_
      | refine DL.gT (by rfl) (by rfl) (by rfl) (by rfl) (by first | rfl | assumption) (POp.pcall (by rfl) Try.func47 rfl rfl (by rfl) (by first | exact clo_all (by rfl) | repeat' (first | exact clo_nil | refine clo_cons ?_ ?_ | exact clo_of (by rfl) | exact clo_fn _ | assumption)) (max_s _ _) (by first | exact clo_of (by rfl) | assumption)) ?_
      | refine DL.gT (by rfl) (by rfl) (by rfl) (by rfl) (by first | rfl | assumption) (POp.pcall (by rfl) Try.func107 rfl rfl (by rfl) (by first | exact clo_all (by rfl) | repeat' (first | exact clo_nil | refine clo_cons ?_ ?_ | exact clo_of (by rfl) | exact clo_fn _ | assumption)) (by first | exact isp_s_t _ _ (by assumption) | exact isp_s_f _ _ (by assumption) | exact isp_s _ _) (by first | exact clo_of (by rfl) | assumption)) ?_
      | refine DL.g (by rfl) (by rfl) (by rfl) (by rfl) (fun h => by (try rw [h]); first | exact POp.q TT_ok (by rfl) | exact POp.quiet (QOp.ld1_ro (by rfl) (by rfl) (by assumption) (TT_ok.ld _ _ (by rfl)) (by rfl)) | exact POp.quiet (QOp.ldr_ro (by rfl) (by rfl) (by assumption) (TT_ok.ld _ _ (by rfl)) (Nat.le_of_ble_eq_true (by rfl))) | exact POp.quiet (QOp.cat (by rfl) (by rfl) (by rfl) (by first | assumption | (simp only [ByteArray.size_append, bs_size] at *; omega))) | exact POp.quiet (QOp.pickAnd (by rfl) (by rfl) (by rfl) (by rfl) (by rfl)) | exact POp.quiet (QOp.pickOr (by rfl) (by rfl) (by rfl) (by rfl) (by rfl)) | exact POp.quiet (QOp.pickT (by rfl) (by rfl) (by with_reducible_and_instances assumption) (by rfl)) | exact POp.quiet (QOp.pickF (by rfl) (by rfl) (by with_reducible_and_instances assumption) (by rfl)) | exact POp.pcall (by rfl) Try.func47 rfl rfl (by rfl) (by first | exact clo_all (by rfl) | repeat' (first | exact clo_nil | refine clo_cons ?_ ?_ | exact clo_of (by rfl) | exact clo_fn _ | assumption)) (max_s _ _) (by first | exact clo_of (by rfl) | assumption) | exact POp.pcall (by rfl) Try.func107 rfl rfl (by rfl) (by first | exact clo_all (by rfl) | repeat' (first | exact clo_nil | refine clo_cons ?_ ?_ | exact clo_of (by rfl) | exact clo_fn _ | assumption)) (by first | exact isp_s_t _ _ (by assumption) | exact isp_s_f _ _ (by assumption) | exact isp_s _ _) (by first | exact clo_of (by rfl) | assumption)) ?_
      | refine DL.nil ?_)
    | ((with_reducible show AW _ _ _ _ _ _); first
      | refine AW.seq ?_
      | refine AW.region ?_
      | refine AW.skip ?_
      | refine AW.drawn (id := 3) 21 (by kernel_rfl) (by kernel_rfl) (by rfl) ?_
      | (refine AW.cond (by rfl) (fun h => ?_) ?_; rotate_left; focus (intro h; (try simp only [Bool.not_eq_true', Bool.not_eq_false'] at h); first | (cases h; done) | exact clash (by with_reducible_and_instances assumption) h | exact clash h (by with_reducible_and_instances assumption) | exact absurd h (by decide) | (refine absurd h ?_; simp; done)))
      | (refine AW.cond (by rfl) ?_ (fun h => ?_); focus (intro h; (try simp only [Bool.not_eq_true', Bool.not_eq_false'] at h); first | (cases h; done) | exact clash (by with_reducible_and_instances assumption) h | exact clash h (by with_reducible_and_instances assumption) | exact absurd h (by decide) | (refine absurd h ?_; simp; done)))
      | (refine AW.cond (by rfl) ?_ ?_ <;> (intro h; try simp only [Bool.not_eq_true', Bool.not_eq_false'] at h))
      | refine AW.ret ?_)
    | with_reducible refine (if_pos rfl).mpr ?_
    | with_reducible refine (if_neg (by decide)).mpr ?_) <;> (try dsimp only [dput, List.set, cond_true, cond_false, Nat.zero_add, Nat.add_zero, Nat.reduceAdd, splice, List.take, List.drop, List.length, List.nil_append, List.cons_append, List.append, TPoint.en, TSegment.en, TBox.en, TFeature.en, TMeet.en, TPlace.en, TCover.en, TLabel.en, TPiece.en, TLevel.en, TChart.en, TReason.en, TEdit.en, TEntry.en, TEdition.en, TListing.en, TAtlas.en, TEvent.en, TWindow.en]))
  all_goals exact Fin.one rfl (RV.tmp (by rfl)) (clo_c _) ⟨by first | rfl | (simp_all [stepsB, wmax]; done) | (simp only [stepsB, wmax]; split <;> simp_all <;> omega), rfl⟩

end Go.Proofs.Ytbkcoechoblndaa.Abs
