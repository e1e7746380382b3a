/- Part B of the walk over abstract states and of the functions' walks. -/
import Derived.Test.YtacbpfbelcdeiaaGreatWkStep
import Derived.Test.YtacbpfbelcdeiaaGreatBnA
/- The walks of a ring's segments. -/
namespace Go.Proofs.YtacbpfbelcdeiaaGreat.Abs
open Go.Proofs Go.RowKit
set_option linter.unusedVariables false
set_option linter.unusedSimpArgs false
set_option maxRecDepth 100000
set_option maxHeartbeats 2000000
attribute [local irreducible] OpA AL AW DL DLM DLR DLS QOp POp VCalls VCallsI
def arnd (l : List TPoint) : List TSegment := List.zipWith TSegment.mk l (l.tail ++ l.take 1)
theorem arnd_len (l : List TPoint) : (arnd l).length = l.length := by
  cases l
  · simp [arnd]
  · simp [arnd]
theorem arnd_get {l : List TPoint} {i : Nat} (h : i < l.length) : ∃ a b, l[i]? = some a ∧ l[(i + 1) % l.length]? = some b ∧ (arnd l)[i]? = some ⟨a, b⟩ := by
  refine ⟨l[i], l[(i + 1) % l.length]'(Nat.mod_lt _ (by omega)), List.getElem?_eq_getElem _, List.getElem?_eq_getElem _, ?_⟩
  unfold arnd
  rw [List.getElem?_zipWith]
  by_cases h1 : i + 1 < l.length
  · have e : (i + 1) % l.length = i + 1 := Nat.mod_eq_of_lt h1
    rw [List.getElem?_append_left (by simp; omega), List.getElem?_tail]
    simp [e, List.getElem?_eq_getElem h, List.getElem?_eq_getElem h1]
  · have e : (i + 1) % l.length = 0 := by rw [show i + 1 = l.length by omega, Nat.mod_self]
    rw [List.getElem?_append_right (by simp; omega)]
    have e2 : i - l.tail.length = 0 := by simp; omega
    rw [e2]
    simp [e, List.getElem?_eq_getElem h, List.getElem?_take, List.getElem?_eq_getElem (show 0 < l.length by omega)]
def wantN (n i k : Nat) : Int := if k + 1 = i ∨ (k = 0 ∧ i + 1 = n) then 1 else 0
theorem arnd_ix {l : List TPoint} {i : Nat} (h : i < l.length) (hl : l.length ≤ 1048576) : (IntKind.i64.wrap ((i : Int) + 1)).tmod ((l.map TPoint.en).length : Int) = (((i + 1) % l.length : Nat) : Int) := by
  rw [w64 (by omega) (by omega), List.length_map, show (i : Int) + 1 = ((i + 1 : Nat) : Int) by omega]
  exact (Int.ofNat_tmod _ _).symm
theorem want_s {n i k : Nat} (hi : i < n) (hk : k < i) (hn : n ≤ 1048576) :
    ((IntKind.i64.wrap ((k : Int) + 1) == (i : Int)) = true ∧ wantN n i k = 1) ∨
    ((IntKind.i64.wrap ((k : Int) + 1) == (i : Int)) = false ∧ ((k : Int) == 0) = false ∧ wantN n i k = 0) ∨
    ((IntKind.i64.wrap ((k : Int) + 1) == (i : Int)) = false ∧ ((k : Int) == 0) = true ∧ (IntKind.i64.wrap ((i : Int) + 1) == (n : Int)) = true ∧ wantN n i k = 1) ∨
    ((IntKind.i64.wrap ((k : Int) + 1) == (i : Int)) = false ∧ ((k : Int) == 0) = true ∧ (IntKind.i64.wrap ((i : Int) + 1) == (n : Int)) = false ∧ wantN n i k = 0) := by
  rw [w64 (n := (k : Int) + 1) (by omega) (by omega), w64 (n := (i : Int) + 1) (by omega) (by omega)]
  unfold wantN
  simp only [beq_iff_eq, beq_eq_false_iff_ne, ne_eq]
  by_cases q1 : k + 1 = i
  · exact .inl ⟨by omega, by simp [q1]⟩
  · by_cases q2 : k = 0
    · by_cases q3 : i + 1 = n
      · exact .inr (.inr (.inl ⟨by omega, by omega, by omega, by simp [q2, q3]⟩))
      · exact .inr (.inr (.inr ⟨by omega, by omega, by omega, by simp [q1, q2, q3] <;> omega⟩))
    · exact .inr (.inl ⟨by omega, by omega, by simp [q1, q2]⟩)
theorem want_i {n i k : Nat} (hi : i < n) (hk : k < i) (hn : n ≤ 1048576) :
    (((k : Int) == IntKind.i64.wrap ((i : Int) - 1)) = true ∧ wantN n i k = 1) ∨
    (((k : Int) == IntKind.i64.wrap ((i : Int) - 1)) = false ∧ ((k : Int) == 0) = false ∧ wantN n i k = 0) ∨
    (((k : Int) == IntKind.i64.wrap ((i : Int) - 1)) = false ∧ ((k : Int) == 0) = true ∧ ((i : Int) == IntKind.i64.wrap ((n : Int) - 1)) = true ∧ wantN n i k = 1) ∨
    (((k : Int) == IntKind.i64.wrap ((i : Int) - 1)) = false ∧ ((k : Int) == 0) = true ∧ ((i : Int) == IntKind.i64.wrap ((n : Int) - 1)) = false ∧ wantN n i k = 0) := by
  have e1 : ((k : Int) == IntKind.i64.wrap ((i : Int) - 1)) = (IntKind.i64.wrap ((k : Int) + 1) == (i : Int)) := by
    rw [w64 (n := (k : Int) + 1) (by omega) (by omega), w64 (n := (i : Int) - 1) (by omega) (by omega), Bool.eq_iff_iff]
    simp only [beq_iff_eq]
    omega
  have e2 : ((i : Int) == IntKind.i64.wrap ((n : Int) - 1)) = (IntKind.i64.wrap ((i : Int) + 1) == (n : Int)) := by
    rw [w64 (n := (i : Int) + 1) (by omega) (by omega), w64 (n := (n : Int) - 1) (by omega) (by omega), Bool.eq_iff_iff]
    simp only [beq_iff_eq]
    omega
  rw [e1, e2]
  exact want_s hi hk hn
def sAt (l : List TPoint) (i : Nat) : TSegment := (arnd l).getD i ⟨⟨0, 0⟩, ⟨0, 0⟩⟩
theorem sAt_of {l : List TPoint} {i : Nat} {x : TSegment} (h : (arnd l)[i]? = some x) : sAt l i = x := by simp [sAt, List.getD_eq_getElem?_getD, h]
def rgIn (l : List TPoint) (i n : Nat) : Bool := (List.range n).all fun k => hmI (sAt l i) (sAt l k) == wantN l.length i k
def rgAt (l : List TPoint) (i : Nat) : Bool := isSeg (sAt l i) && rgIn l i i
def rgOk (l : List TPoint) (n : Nat) : Bool := (List.range n).all (rgAt l)
theorem rgIn_succ (l : List TPoint) (i k : Nat) : rgIn l i (k + 1) = (rgIn l i k && (hmI (sAt l i) (sAt l k) == wantN l.length i k)) := by simp [rgIn, List.range_succ]
theorem rgOk_succ (l : List TPoint) (i : Nat) : rgOk l (i + 1) = (rgOk l i && rgAt l i) := by simp [rgOk, List.range_succ]
theorem rgIn_not {l : List TPoint} {i k n : Nat} (h : (hmI (sAt l i) (sAt l k) == wantN l.length i k) = false) (hk : k < n) : rgIn l i n = false := by
  simp only [rgIn, List.all_eq_false, List.mem_range]
  exact ⟨k, hk, by simp [h]⟩
theorem rgOk_not {l : List TPoint} {i n : Nat} (h : rgAt l i = false) (hi : i < n) : rgOk l n = false := by
  simp only [rgOk, List.all_eq_false, List.mem_range]
  exact ⟨i, hi, by simp [h]⟩
def isRing (l : List TPoint) : Bool := inr l.length 3 10 && rgOk l l.length
theorem isRing_len {l : List TPoint} (h : isRing l = true) : 3 ≤ l.length ∧ l.length ≤ 10 := by
  simp only [isRing, inr, Bool.and_eq_true, decide_eq_true_eq] at h
  omega
def ringSegs (l : List TPoint) : List TSegment := if isRing l then arnd l else []
theorem ringSegs_t {l : List TPoint} (h : isRing l = true) : ringSegs l = arnd l := by simp [ringSegs, h]
theorem ringSegs_f {l : List TPoint} (h : isRing l = false) : ringSegs l = [] := by simp [ringSegs, h]
theorem ringSegs_le (l : List TPoint) : (ringSegs l).length ≤ 10 := by
  unfold ringSegs
  split
  · have := isRing_len (by assumption); rw [arnd_len]; omega
  · simp
theorem arnd_s (l : List TPoint) (hl : l.length ≤ 1048576) : VCalls Tryz.prog 169 [.ro 2 (l.map TPoint.en)] (fun r M => r = .ro 4 ((arnd l).map TSegment.en) ∧ M = []) := by
  refine VCalls.bodyE Tryz.func169 rfl 28 rfl (fun E hE => ?_)
  simp only [List.reduceReplicate, List.cons_append, List.nil_append]
  have hclo : Clo (.ro 2 (l.map TPoint.en)) := clo_list TPoint.clo_en
  have hclA : Clo (.ro 4 ((arnd l).map TSegment.en)) := clo_list TSegment.clo_en
  have hal := arnd_len l
  repeat' ((first
    | ((with_reducible show AL ..); first | refine AL.any ?_ | refine AL.nil ?_)
    | ((with_reducible show DL ..); first | refine DL.any ?_ | refine DL.nil ?_)
    | ((with_reducible show DLM ..); first | refine DLM.any ?_ | refine DLM.mk ?_ | refine DLM.nil ?_)
    | ((with_reducible show AW ..); first | refine AW.seq ?_ | refine AW.region ?_ | refine AW.skip ?_ | (refine AW.loopD hE (fun i : Nat => [.ro 2 (l.map TPoint.en), .any, .any, .own 0 i, I (i : Int), .any, .any, .any, .any, .any, .any, .any, .any, .any, .any, .any, .any, .any, .any, .any, .any, .any, .any, .any, .any, .any, .any, .any, .any]) (fun i => [some ⟨177, 4, i, false, ((arnd l).take i).map TSegment.en⟩]) (fun i => (arnd l).length - i) (fun i => i ≤ (arnd l).length) 0 (Nat.zero_le _) ?_ (by first | rfl | (simp [fil_zero]; done)) ?_) | refine AW.drM (id := 5) 15 14 ?_ | refine AW.cT ?_ | refine AW.cF ?_ | (refine AW.c2 ?_ ?_ <;> (intro h; try simp only [bT, bF] at h)) | refine AW.block ?_ | refine AW.exit ?_ | refine AW.ret ?_)
    | with_reducible refine ifP ?_
    | with_reducible refine ifN ?_) <;> (try dsimp only))
  · (repeat' (first | exact Wk.nil | refine Wk.any ?_ | (with_reducible refine Wk.same ?_) | refine Wk.of ?_ ?_)) <;> first | rfl | (simp)
  · intro i hi
    have hclo : Clo (.ro 2 (l.map TPoint.en)) := clo_list TPoint.clo_en
    have hclA : Clo (.ro 4 ((arnd l).map TSegment.en)) := clo_list TSegment.clo_en
    have hal := arnd_len l
    by_cases hlt : i < (arnd l).length
    · skip
      obtain ⟨a, b, ha, hb, hs⟩ := arnd_get (l := l) (i := i) (by omega)
      have ht : decide ((i : Int) < ((l.map TPoint.en).length : Int)) = true := by simp; omega
      have hn := next_ix hlt (by omega)
      have hix := arnd_ix (l := l) (i := i) (by omega) hl
      have hz : ((l.map TPoint.en).length : Int) ≠ 0 := by rw [List.length_map]; omega
      have h0 : 0 ≤ (IntKind.i64.wrap ((i : Int) + 1)).tmod ((l.map TPoint.en).length : Int) := by rw [hix]; omega
      have hga := map_get (f := TPoint.en) ha
      have hgb : (l.map TPoint.en)[((IntKind.i64.wrap ((i : Int) + 1)).tmod ((l.map TPoint.en).length : Int)).toNat]? = some b.en := by rw [hix]; exact map_get hb
      have hm := map_take_succ (f := TSegment.en) hs
      repeat' ((first
        | ((with_reducible show AL ..); first | refine AL.any ?_ | refine AL.nil ?_)
        | ((with_reducible show DL ..); first | refine DL.any ?_ | refine DL.nil ?_)
        | ((with_reducible show DLM ..); first | refine DLM.any ?_ | refine DLM.mk ?_ | refine DLM.nil ?_)
        | ((with_reducible show AW ..); first | refine AW.seq ?_ | refine AW.region ?_ | refine AW.skip ?_ | refine AW.drM (id := 5) 15 14 ?_ | refine AW.cT ?_ | refine AW.cF ?_ | (refine AW.c2 ?_ ?_ <;> (intro h; try simp only [bT, bF] at h)) | refine AW.block ?_ | refine AW.exit ?_ | refine AW.ret ?_)
        | with_reducible refine ifP ?_
        | with_reducible refine ifN ?_) <;> (try dsimp only))
      all_goals first
        | (refine ⟨i + 1, _, hlt, by omega, ?_, by rw [hm] <;> rfl, ?_, ?_⟩; (focus ((repeat' (first | exact Wk.nil | refine Wk.any ?_ | (with_reducible refine Wk.same ?_) | refine Wk.of ?_ ?_)) <;> (simp_all))); (focus ((repeat' (first | exact Fits.nil _ | refine Fits.cons ?_ ?_ | exact Fits.any _ | exact Fits.c _ _ | exact Fits.own (by rfl) | exact Fits.ref (by rfl) | exact Fits.clo (by assumption) | exact Fits.clo (clo_of (by rfl)) | exact Fits.clo (clo_fn _))))); (focus (exact fits_row (clo_rows TSegment.clo_en))))
    · have e : i = (arnd l).length := by omega
      have ht : decide ((i : Int) < ((l.map TPoint.en).length : Int)) = false := by simp; omega
      subst e
      repeat' ((first
        | ((with_reducible show AL ..); first | refine AL.any ?_ | refine AL.nil ?_)
        | ((with_reducible show DL ..); first | refine DL.any ?_ | refine DL.nil ?_)
        | ((with_reducible show DLM ..); first | refine DLM.any ?_ | refine DLM.mk ?_ | refine DLM.nil ?_)
        | ((with_reducible show AW ..); first | refine AW.seq ?_ | refine AW.region ?_ | refine AW.skip ?_ | (refine AW.freezeRet (t := 2) (id := 0) rfl rfl rfl rfl (clo_rows TSegment.clo_en) ?_; (try simp only [List.take_length]); try dsimp only [dput, List.set, cond_true, cond_false, Nat.zero_add, Nat.add_zero, Nat.reduceAdd, splice, List.take, List.drop, List.length, List.nil_append, List.cons_append, List.append, TPoint.en, TSegment.en, TBox.en, TFeature.en, TMeet.en, TPlace.en, TCover.en, TLabel.en, TPiece.en, TLevel.en, TChart.en, TReason.en, TEdit.en, TEntry.en, TEdition.en, TListing.en, TAtlas.en, TEvent.en, TWindow.en]) | refine AW.drM (id := 5) 15 14 ?_ | refine AW.cT ?_ | refine AW.cF ?_ | (refine AW.c2 ?_ ?_ <;> (intro h; try simp only [bT, bF] at h)) | refine AW.block ?_ | refine AW.exit ?_ | refine AW.ret ?_)
        | with_reducible refine ifP ?_
        | with_reducible refine ifN ?_) <;> (try dsimp only))
      all_goals exact Fin.one rfl (RV.tmp (by rfl)) (clo_list TSegment.clo_en) ⟨rfl, rfl⟩

theorem arnd_i (l : List TPoint) (hl : l.length ≤ 1048576) : VCalls Tryz.prog 176 [.ro 2 (l.map TPoint.en)] (fun r M => r = .ro 4 ((arnd l).map TSegment.en) ∧ M = []) := by
  refine VCalls.bodyE Tryz.func176 rfl 28 rfl (fun E hE => ?_)
  simp only [List.reduceReplicate, List.cons_append, List.nil_append]
  have hclo : Clo (.ro 2 (l.map TPoint.en)) := clo_list TPoint.clo_en
  have hclA : Clo (.ro 4 ((arnd l).map TSegment.en)) := clo_list TSegment.clo_en
  have hal := arnd_len l
  repeat' ((first
    | ((with_reducible show AL ..); first | refine AL.any ?_ | refine AL.nil ?_)
    | ((with_reducible show DL ..); first | refine DL.any ?_ | refine DL.nil ?_)
    | ((with_reducible show DLM ..); first | refine DLM.any ?_ | refine DLM.mk ?_ | refine DLM.nil ?_)
    | ((with_reducible show AW ..); first | refine AW.seq ?_ | refine AW.region ?_ | refine AW.skip ?_ | (refine AW.loopD hE (fun i : Nat => [.ro 2 (l.map TPoint.en), .any, .any, .own 0 i, .any, .any, .any, .ro 2 (l.map TPoint.en), I (l.map TPoint.en).length, I (i : Int), .any, .any, .any, .any, .any, .any, .any, .any, .any, .any, .any, .any, .any, .any, .any, .any, .any, .any, .any]) (fun i => [some ⟨177, 4, i, false, ((arnd l).take i).map TSegment.en⟩]) (fun i => (arnd l).length - i) (fun i => i ≤ (arnd l).length) 0 (Nat.zero_le _) ?_ (by first | rfl | (simp [fil_zero]; done)) ?_) | refine AW.drM (id := 5) 12 11 ?_ | refine AW.cT ?_ | refine AW.cF ?_ | (refine AW.c2 ?_ ?_ <;> (intro h; try simp only [bT, bF] at h)) | refine AW.block ?_ | refine AW.exit ?_ | refine AW.ret ?_)
    | with_reducible refine ifP ?_
    | with_reducible refine ifN ?_) <;> (try dsimp only))
  · (repeat' (first | exact Wk.nil | refine Wk.any ?_ | (with_reducible refine Wk.same ?_) | refine Wk.of ?_ ?_)) <;> first | rfl | (simp)
  · intro i hi
    have hclo : Clo (.ro 2 (l.map TPoint.en)) := clo_list TPoint.clo_en
    have hclA : Clo (.ro 4 ((arnd l).map TSegment.en)) := clo_list TSegment.clo_en
    have hal := arnd_len l
    by_cases hlt : i < (arnd l).length
    · skip
      obtain ⟨a, b, ha, hb, hs⟩ := arnd_get (l := l) (i := i) (by omega)
      have ht : decide ((i : Int) < ((l.map TPoint.en).length : Int)) = true := by simp; omega
      have hn := next_ix hlt (by omega)
      have hix := arnd_ix (l := l) (i := i) (by omega) hl
      have hz : ((l.map TPoint.en).length : Int) ≠ 0 := by rw [List.length_map]; omega
      have h0 : 0 ≤ (IntKind.i64.wrap ((i : Int) + 1)).tmod ((l.map TPoint.en).length : Int) := by rw [hix]; omega
      have hga := map_get (f := TPoint.en) ha
      have hgb : (l.map TPoint.en)[((IntKind.i64.wrap ((i : Int) + 1)).tmod ((l.map TPoint.en).length : Int)).toNat]? = some b.en := by rw [hix]; exact map_get hb
      have hm := map_take_succ (f := TSegment.en) hs
      repeat' ((first
        | ((with_reducible show AL ..); first | refine AL.any ?_ | refine AL.nil ?_)
        | ((with_reducible show DL ..); first | refine DL.any ?_ | refine DL.nil ?_)
        | ((with_reducible show DLM ..); first | refine DLM.any ?_ | refine DLM.mk ?_ | refine DLM.nil ?_)
        | ((with_reducible show AW ..); first | refine AW.seq ?_ | refine AW.region ?_ | refine AW.skip ?_ | refine AW.drM (id := 5) 12 11 ?_ | refine AW.cT ?_ | refine AW.cF ?_ | (refine AW.c2 ?_ ?_ <;> (intro h; try simp only [bT, bF] at h)) | refine AW.block ?_ | refine AW.exit ?_ | refine AW.ret ?_)
        | with_reducible refine ifP ?_
        | with_reducible refine ifN ?_) <;> (try dsimp only))
      all_goals first
        | (refine ⟨i + 1, _, hlt, by omega, ?_, by rw [hm] <;> rfl, ?_, ?_⟩; (focus ((repeat' (first | exact Wk.nil | refine Wk.any ?_ | (with_reducible refine Wk.same ?_) | refine Wk.of ?_ ?_)) <;> (simp_all))); (focus ((repeat' (first | exact Fits.nil _ | refine Fits.cons ?_ ?_ | exact Fits.any _ | exact Fits.c _ _ | exact Fits.own (by rfl) | exact Fits.ref (by rfl) | exact Fits.clo (by assumption) | exact Fits.clo (clo_of (by rfl)) | exact Fits.clo (clo_fn _))))); (focus (exact fits_row (clo_rows TSegment.clo_en))))
    · have e : i = (arnd l).length := by omega
      have ht : decide ((i : Int) < ((l.map TPoint.en).length : Int)) = false := by simp; omega
      subst e
      repeat' ((first
        | ((with_reducible show AL ..); first | refine AL.any ?_ | refine AL.nil ?_)
        | ((with_reducible show DL ..); first | refine DL.any ?_ | refine DL.nil ?_)
        | ((with_reducible show DLM ..); first | refine DLM.any ?_ | refine DLM.mk ?_ | refine DLM.nil ?_)
        | ((with_reducible show AW ..); first | refine AW.seq ?_ | refine AW.region ?_ | refine AW.skip ?_ | (refine AW.freezeRet (t := 2) (id := 0) rfl rfl rfl rfl (clo_rows TSegment.clo_en) ?_; (try simp only [List.take_length]); try dsimp only [dput, List.set, cond_true, cond_false, Nat.zero_add, Nat.add_zero, Nat.reduceAdd, splice, List.take, List.drop, List.length, List.nil_append, List.cons_append, List.append, TPoint.en, TSegment.en, TBox.en, TFeature.en, TMeet.en, TPlace.en, TCover.en, TLabel.en, TPiece.en, TLevel.en, TChart.en, TReason.en, TEdit.en, TEntry.en, TEdition.en, TListing.en, TAtlas.en, TEvent.en, TWindow.en]) | refine AW.drM (id := 5) 12 11 ?_ | refine AW.cT ?_ | refine AW.cF ?_ | (refine AW.c2 ?_ ?_ <;> (intro h; try simp only [bT, bF] at h)) | refine AW.block ?_ | refine AW.exit ?_ | refine AW.ret ?_)
        | with_reducible refine ifP ?_
        | with_reducible refine ifN ?_) <;> (try dsimp only))
      all_goals exact Fin.one rfl (RV.tmp (by rfl)) (clo_list TSegment.clo_en) ⟨rfl, rfl⟩

theorem meet_i (s t : TSegment) : VCalls Tryz.prog 175 [.agg s.en, .agg t.en] (fun r M => r = I (hmI s t) ∧ M = []) := by
  refine VCalls.body Tryz.func175 rfl 107 rfl (fun E => ?_)
  simp only [List.reduceReplicate, List.cons_append, List.nil_append]
  dsimp only [TPoint.en, TSegment.en]
  repeat' ((first
    | ((with_reducible show AL ..); first | refine AL.any ?_ | refine AL.any (h := POp.k Tryz.func177 (hc := by first | exact isSeg_i s | exact isSeg_i t)) ?_ | refine AL.any (h := POp.k Tryz.func191 (hc := by first | exact side_i s.a s.b t.a | exact side_i s.a s.b t.b | exact side_i t.a t.b s.a | exact side_i t.a t.b s.b)) ?_ | refine AL.any (h := POp.k Tryz.func192 (hc := by first | exact fwd_i s | exact fwd_i t)) ?_ | refine AL.any (h := POp.k Tryz.func193 (hc := by first | exact bef_i (fwdW s).a (fwdW t).a | exact bef_i (fwdW t).b (fwdW s).b | exact bef_i (fwdW s).b (fwdW s).a | exact bef_i (fwdW s).b (fwdW t).a | exact bef_i (fwdW t).b (fwdW s).a | exact bef_i (fwdW t).b (fwdW t).a)) ?_ | refine AL.any (h := POp.k Tryz.func194 (hc := by first | exact isOn_i s t.a | exact isOn_i s t.b | exact isOn_i t s.a | exact isOn_i t s.b)) ?_ | refine AL.U ?_ | refine AL.F ?_ | refine AL.T ?_ | refine AL.T (h := POp.k Tryz.func177 (hc := by first | exact isSeg_i s | exact isSeg_i t)) ?_ | refine AL.T (h := POp.k Tryz.func191 (hc := by first | exact side_i s.a s.b t.a | exact side_i s.a s.b t.b | exact side_i t.a t.b s.a | exact side_i t.a t.b s.b)) ?_ | refine AL.T (h := POp.k Tryz.func194 (hc := by first | exact isOn_i s t.a | exact isOn_i s t.b | exact isOn_i t s.a | exact isOn_i t s.b)) ?_ | refine AL.W ?_ | refine AL.W (h := fun h => by (try rw [h]); exact POp.k Tryz.func177 (hc := by first | exact isSeg_i s | exact isSeg_i t)) ?_ | refine AL.W (h := fun h => by (try rw [h]); exact POp.k Tryz.func191 (hc := by first | exact side_i s.a s.b t.a | exact side_i s.a s.b t.b | exact side_i t.a t.b s.a | exact side_i t.a t.b s.b)) ?_ | refine AL.W (h := fun h => by (try rw [h]); exact POp.k Tryz.func194 (hc := by first | exact isOn_i s t.a | exact isOn_i s t.b | exact isOn_i t s.a | exact isOn_i t s.b)) ?_ | refine AL.nil ?_)
    | ((with_reducible show DL ..); first | refine DL.any ?_ | refine DL.any (h := POp.k Tryz.func191 (hc := by first | exact side_i s.a s.b t.a | exact side_i s.a s.b t.b | exact side_i t.a t.b s.a | exact side_i t.a t.b s.b)) ?_ | refine DL.any (h := POp.k Tryz.func192 (hc := by first | exact fwd_i s | exact fwd_i t)) ?_ | refine DL.U ?_ | refine DL.F ?_ | refine DL.T ?_ | refine DL.T (h := POp.k Tryz.func191 (hc := by first | exact side_i s.a s.b t.a | exact side_i s.a s.b t.b | exact side_i t.a t.b s.a | exact side_i t.a t.b s.b)) ?_ | refine DL.W ?_ | refine DL.W (h := fun h => by (try rw [h]); exact POp.k Tryz.func191 (hc := by first | exact side_i s.a s.b t.a | exact side_i s.a s.b t.b | exact side_i t.a t.b s.a | exact side_i t.a t.b s.b)) ?_ | refine DL.nil ?_)
    | ((with_reducible show DLR ..); first | refine DLR.any ?_ | refine DLR.alloc rfl rfl (by first | exact ze2 | exact ze3 | exact ze4 | exact ze5 | exact ze6 | exact ze7 | exact ze8 | exact ze9 | exact ze10 | exact ze11 | exact ze12 | exact ze14 | exact ze17 | exact ze19 | exact ze21 | exact ze22 | exact ze23 | exact ze24 | exact ze27 | exact ze28 | exact ze29 | exact ze30 | exact ze31 | exact ze32 | exact ze42 | exact ze43 | exact ze44 | exact ze62 | exact ze63 | exact ze64 | exact ze67 | exact ze68 | exact ze69 | exact ze76 | exact ze77 | exact ze81 | exact ze96 | exact ze97 | exact ze99 | exact ze117 | exact ze145 | exact ze152 | exact ze155 | exact ze177) rfl rfl ?_ | refine DLR.box rfl rfl (by rfl) (by rfl) rfl rfl ?_ | refine DLR.store rfl rfl (by rfl) rfl rfl rfl rfl rfl (by rfl) (by rfl) (TT_ok.ld _ _ (by rfl)) (by rfl) (by rfl) rfl ?_ | refine DLR.any (h := fun Y => POp.k Tryz.func191 (hc := by first | exact side_i s.a s.b t.a | exact side_i s.a s.b t.b | exact side_i t.a t.b s.a | exact side_i t.a t.b s.b)) ?_ | refine DLR.any (h := fun Y => POp.k Tryz.func192 (hc := by first | exact fwd_i s | exact fwd_i t)) ?_ | refine DLR.row rfl (fun Y => RowRun.empty (by rfl) (by rfl) (by first | exact rwk22 | exact rwk27 | exact rwk28 | exact rwk29 | exact rwk42 | exact rwk43 | exact rwk62 | exact rwk67)) rfl rfl ?_ | refine DLR.row rfl (fun Y => RowRun.literal (by rfl) (by first | exact rwk22 | exact rwk27 | exact rwk28 | exact rwk29 | exact rwk42 | exact rwk43 | exact rwk62 | exact rwk67) (by rfl) (by rfl) (by rfl) (by rfl) (by rfl) (by rfl)) rfl rfl ?_ | refine DLR.append rfl (by rfl) (by first | exact rwk22 | exact rwk27 | exact rwk28 | exact rwk29 | exact rwk42 | exact rwk43 | exact rwk62 | exact rwk67) (by rfl) rfl rfl rfl rfl rfl rfl (by rfl) (by first | (simp <;> omega) | omega) (by first | (simp [maxLen] <;> omega) | (simp_all [maxLen] <;> omega)) ?_ | refine DLR.W ?_ | refine DLR.W (h := fun h Y => by (try rw [h]); exact POp.k Tryz.func191 (hc := by first | exact side_i s.a s.b t.a | exact side_i s.a s.b t.b | exact side_i t.a t.b s.a | exact side_i t.a t.b s.b)) ?_ | refine DLR.nil ?_)
    | ((with_reducible show AW ..); first | refine AW.seq ?_ | refine AW.region ?_ | refine AW.skip ?_ | refine AW.dr (id := 3) 13 ?_ | refine AW.dr (id := 5) 3 ?_ | refine AW.drawnR (id := 6) 7 2 [none, none, none, none, some 0, some 1, some 0] [some Rsv, some Rsv] rfl (by kernel_rfl) (by kernel_rfl) (by kernel_rfl) (by rfl) ?_ | refine AW.dr (id := 16) 18 ?_ | refine AW.cT ?_ | refine AW.cF ?_ | (refine AW.c2 ?_ ?_ <;> (intro h; try simp only [bT, bF] at h)) | refine AW.block ?_ | refine AW.exit ?_ | refine AW.ret ?_)) <;> (try dsimp only))
  all_goals exact Fin.one rfl (RV.tmp (by rfl)) (clo_c _) ⟨by first | (simp only [hmI]; simp_all; done) | (unfold hmI wmul; simp only [*, Bool.false_eq_true, if_false, if_true]; done), rfl⟩

theorem shared_s (s t : TSegment) : VCalls Tryz.prog 188 [.agg s.en, .agg t.en] (fun r M => r = I ((shK s t 4).length) ∧ M = []) := by
  refine VCalls.bodyE Tryz.func188 rfl 72 rfl (fun E hE => ?_)
  simp only [List.reduceReplicate, List.cons_append, List.nil_append]
  repeat' ((first
    | ((with_reducible show AL ..); first | refine AL.any ?_ | refine AL.U ?_ | refine AL.F ?_ | refine AL.T ?_ | refine AL.T (h := POp.k Tryz.func199 (hc := by first | exact isOn_s s (endE s t i) | exact isOn_s t (endE s t i))) ?_ | refine AL.W ?_ | refine AL.W (h := fun h => by (try rw [h]); exact POp.k Tryz.func199 (hc := by first | exact isOn_s s (endE s t i) | exact isOn_s t (endE s t i))) ?_ | refine AL.nil ?_)
    | ((with_reducible show DL ..); first | refine DL.any ?_ | refine DL.U ?_ | refine DL.F ?_ | refine DL.T ?_ | refine DL.T (h := POp.k Tryz.func199 (hc := by first | exact isOn_s s (endE s t i) | exact isOn_s t (endE s t i))) ?_ | refine DL.W ?_ | refine DL.W (h := fun h => by (try rw [h]); exact POp.k Tryz.func199 (hc := by first | exact isOn_s s (endE s t i) | exact isOn_s t (endE s t i))) ?_ | refine DL.nil ?_)
    | ((with_reducible show AW ..); first | refine AW.seq ?_ | refine AW.region ?_ | refine AW.skip ?_ | (refine AW.loopD hE (fun i : Nat => (.any :: .any :: .ref 0 0 4 0 0 :: .ref 1 0 4 0 0 :: .any :: .own 2 (shK s t i).length :: .own 3 0 :: I (i : Int) :: .any :: .any :: .any :: .any :: .any :: .any :: .any :: .any :: .any :: .any :: .any :: .any :: .any :: .any :: .any :: .any :: .any :: .any :: .any :: .any :: .any :: .any :: .any :: .any :: .any :: .any :: .any :: .any :: .any :: .any :: .any :: .any :: .any :: .any :: .any :: .any :: .any :: .any :: .any :: .any :: .any :: .any :: .any :: .any :: .any :: .any :: .any :: .any :: .any :: .any :: .any :: .any :: .any :: .any :: .any :: .any :: .any :: .any :: .any :: .any :: .any :: .any :: .any :: .any :: .any :: .any :: [])) (fun i => [some ⟨177, 4, 0, true, [s.en]⟩, some ⟨177, 4, 0, true, [t.en]⟩, some ⟨152, 2, (shK s t i).length, false, (shK s t i).map TPoint.en⟩, some ⟨152, 2, 0, false, (endsL s t).map TPoint.en⟩]) (fun i => 4 - i) (fun i => i ≤ 4) 0 (Nat.zero_le _) ?_ (by first | rfl | (simp; done)) ?_) | refine AW.dr (id := 6) 19 ?_ | refine AW.dr (id := 10) 10 ?_ | refine AW.cT ?_ | refine AW.cF ?_ | (refine AW.c2 ?_ ?_ <;> (intro h; try simp only [bT, bF] at h)) | refine AW.block ?_ | refine AW.exit ?_ | refine AW.ret ?_)
    | with_reducible refine ifP ?_
    | with_reducible refine ifN ?_) <;> (try dsimp only))
  · (repeat' (first | exact Wk.nil | refine Wk.any ?_ | (with_reducible refine Wk.same ?_) | refine Wk.of ?_ ?_)) <;> first | rfl | (simp; done)
  · intro i hv_i
    by_cases hlt_i : i < 4
    · skip
      have hti : decide ((i : Int) < 4) = true := by simp; omega
      have hni : IntKind.i64.wrap ((i : Int) + 1) = ((i + 1 : Nat) : Int) := by rw [w64 (by omega) (by omega)]; omega
      have hge := end_get (s := s) (t := t) hlt_i
      have hix : ((i : Int)).toNat < ((endsL s t).map TPoint.en).length := by simp [endsL]; omega
      have hln := shK_len s t i
      have hz := onK_zero s t i
      have hm1 := sh_add (s := s) (t := t) (i := i)
      have hm0 := sh_not (s := s) (t := t) (i := i)
      have hc2 : (decide ((i : Int) < 2) = true ∧ decide ((i : Int) ≥ 2) = false ∧ onE s t i = onW t (endE s t i)) ∨ (decide ((i : Int) < 2) = false ∧ decide ((i : Int) ≥ 2) = true ∧ onE s t i = onW s (endE s t i)) := by
        rcases Nat.lt_or_ge i 2 with h2 | h2
        · exact .inl ⟨by simp; omega, by simp; omega, by simp [onE, h2]⟩
        · exact .inr ⟨by simp; omega, by simp; omega, by simp [onE]; omega⟩
      rcases hc2 with ⟨hA, hB, hon⟩ | ⟨hA, hB, hon⟩
      cases hw : onW t (endE s t i)
      all_goals
        repeat' ((first
          | ((with_reducible show AL ..); first | refine AL.any ?_ | refine AL.U ?_ | refine AL.F ?_ | refine AL.T ?_ | refine AL.T (h := POp.k Tryz.func199 (hc := by first | exact isOn_s s (endE s t i) | exact isOn_s t (endE s t i))) ?_ | refine AL.W ?_ | refine AL.W (h := fun h => by (try rw [h]); exact POp.k Tryz.func199 (hc := by first | exact isOn_s s (endE s t i) | exact isOn_s t (endE s t i))) ?_ | refine AL.nil ?_)
          | ((with_reducible show DL ..); first | refine DL.any ?_ | refine DL.U ?_ | refine DL.F ?_ | refine DL.T ?_ | refine DL.T (h := POp.k Tryz.func199 (hc := by first | exact isOn_s s (endE s t i) | exact isOn_s t (endE s t i))) ?_ | refine DL.W ?_ | refine DL.W (h := fun h => by (try rw [h]); exact POp.k Tryz.func199 (hc := by first | exact isOn_s s (endE s t i) | exact isOn_s t (endE s t i))) ?_ | refine DL.nil ?_)
          | ((with_reducible show AW ..); first | refine AW.seq ?_ | refine AW.region ?_ | refine AW.skip ?_ | (refine AW.loopD hE (fun k : Nat => (.any :: .any :: .ref 0 0 4 0 0 :: .ref 1 0 4 0 0 :: .any :: .own 2 (shK s t i).length :: .own 3 0 :: I (i : Int) :: B (onK s t i k) :: I (k : Int) :: .any :: .any :: .any :: .any :: .any :: .any :: .any :: .any :: .any :: .any :: .any :: .any :: .any :: .any :: .any :: .any :: .any :: .any :: .any :: .any :: .any :: .any :: .any :: .any :: .any :: .any :: .any :: .any :: .any :: .any :: .any :: .any :: .any :: .any :: .any :: .any :: .any :: .any :: .any :: .any :: .any :: .any :: .any :: .any :: .any :: .any :: .any :: .any :: .any :: .any :: .any :: .any :: .any :: .any :: .any :: .any :: .any :: .any :: .any :: .any :: .any :: .any :: .any :: .any :: [])) (fun k => [some ⟨177, 4, 0, true, [s.en]⟩, some ⟨177, 4, 0, true, [t.en]⟩, some ⟨152, 2, (shK s t i).length, false, (shK s t i).map TPoint.en⟩, some ⟨152, 2, 0, false, (endsL s t).map TPoint.en⟩]) (fun k => (shK s t i).length - k) (fun k => k ≤ (shK s t i).length) 0 (Nat.zero_le _) ?_ (by first | rfl | (simp; done)) ?_) | refine AW.dr (id := 6) 19 ?_ | refine AW.dr (id := 10) 10 ?_ | refine AW.cT ?_ | refine AW.cF ?_ | (refine AW.c2 ?_ ?_ <;> (intro h; try simp only [bT, bF] at h)) | refine AW.block ?_ | refine AW.exit ?_ | refine AW.ret ?_)
          | with_reducible refine ifP ?_
          | with_reducible refine ifN ?_) <;> (try dsimp only))
        · (repeat' (first | exact Wk.nil | refine Wk.any ?_ | (with_reducible refine Wk.same ?_) | refine Wk.of ?_ ?_)) <;> first | rfl | (simp_all)
        · intro k hv_k
          by_cases hlt_k : k < (shK s t i).length
          · skip
            obtain ⟨q, hq⟩ : ∃ q, (shK s t i)[k]? = some q := ⟨_, List.getElem?_eq_getElem hlt_k⟩
            have hgk := map_get (f := TPoint.en) hq
            have htk := lt_true (f := TPoint.en) hlt_k
            have hnk := next_ix hlt_k (by omega)
            have hkx : ((k : Int)).toNat < ((shK s t i).map TPoint.en).length := by simp; omega
            have hks := onK_succ hq
            repeat' ((first
              | ((with_reducible show AL ..); first | refine AL.any ?_ | refine AL.U ?_ | refine AL.F ?_ | refine AL.T ?_ | refine AL.T (h := POp.k Tryz.func199 (hc := by first | exact isOn_s s (endE s t i) | exact isOn_s t (endE s t i))) ?_ | refine AL.W ?_ | refine AL.W (h := fun h => by (try rw [h]); exact POp.k Tryz.func199 (hc := by first | exact isOn_s s (endE s t i) | exact isOn_s t (endE s t i))) ?_ | refine AL.nil ?_)
              | ((with_reducible show DL ..); first | refine DL.any ?_ | refine DL.U ?_ | refine DL.F ?_ | refine DL.T ?_ | refine DL.T (h := POp.k Tryz.func199 (hc := by first | exact isOn_s s (endE s t i) | exact isOn_s t (endE s t i))) ?_ | refine DL.W ?_ | refine DL.W (h := fun h => by (try rw [h]); exact POp.k Tryz.func199 (hc := by first | exact isOn_s s (endE s t i) | exact isOn_s t (endE s t i))) ?_ | refine DL.nil ?_)
              | ((with_reducible show AW ..); first | refine AW.seq ?_ | refine AW.region ?_ | refine AW.skip ?_ | refine AW.dr (id := 6) 19 ?_ | refine AW.dr (id := 10) 10 ?_ | refine AW.cT ?_ | refine AW.cF ?_ | (refine AW.c2 ?_ ?_ <;> (intro h; try simp only [bT, bF] at h)) | refine AW.block ?_ | refine AW.exit ?_ | refine AW.ret ?_)
              | with_reducible refine ifP ?_
              | with_reducible refine ifN ?_) <;> (try dsimp only))
            all_goals first
              | (refine ⟨k + 1, _, hlt_k, by omega, ?_, rfl, ?_, ?_⟩; (focus ((repeat' (first | exact Wk.nil | refine Wk.any ?_ | (with_reducible refine Wk.same ?_) | refine Wk.of ?_ ?_)) <;> (simp_all))); (focus ((repeat' (first | exact Fits.nil _ | refine Fits.cons ?_ ?_ | exact Fits.any _ | exact Fits.c _ _ | exact Fits.own (by rfl) | exact Fits.ref (by rfl) | exact Fits.clo (by assumption) | exact Fits.clo (clo_of (by rfl)) | exact Fits.clo (clo_fn _))))); (focus (exact fitsM_cons (clo_one s.clo_en) (fitsM_cons (clo_one t.clo_en) (fitsM_cons (clo_rows TPoint.clo_en) (fitsM_cons (clo_rows TPoint.clo_en) (FitsM.nil _)))))))
          · have e_k : k = (shK s t i).length := by omega
            have htk := lt_false (f := TPoint.en) (show ¬ k < (shK s t i).length by omega)
            subst e_k
            repeat' ((first
              | ((with_reducible show AL ..); first | refine AL.any ?_ | refine AL.U ?_ | refine AL.F ?_ | refine AL.T ?_ | refine AL.T (h := POp.k Tryz.func199 (hc := by first | exact isOn_s s (endE s t i) | exact isOn_s t (endE s t i))) ?_ | refine AL.W ?_ | refine AL.W (h := fun h => by (try rw [h]); exact POp.k Tryz.func199 (hc := by first | exact isOn_s s (endE s t i) | exact isOn_s t (endE s t i))) ?_ | refine AL.nil ?_)
              | ((with_reducible show DL ..); first | refine DL.any ?_ | refine DL.U ?_ | refine DL.F ?_ | refine DL.T ?_ | refine DL.T (h := POp.k Tryz.func199 (hc := by first | exact isOn_s s (endE s t i) | exact isOn_s t (endE s t i))) ?_ | refine DL.W ?_ | refine DL.W (h := fun h => by (try rw [h]); exact POp.k Tryz.func199 (hc := by first | exact isOn_s s (endE s t i) | exact isOn_s t (endE s t i))) ?_ | refine DL.nil ?_)
              | ((with_reducible show AW ..); first | refine AW.seq ?_ | refine AW.region ?_ | refine AW.skip ?_ | refine AW.dr (id := 6) 19 ?_ | refine AW.dr (id := 10) 10 ?_ | refine AW.cT ?_ | refine AW.cF ?_ | (refine AW.c2 ?_ ?_ <;> (intro h; try simp only [bT, bF] at h)) | refine AW.block ?_ | refine AW.exit ?_ | refine AW.ret ?_)
              | with_reducible refine ifP ?_
              | with_reducible refine ifN ?_) <;> (try dsimp only))
            all_goals first
              | (refine ⟨i + 1, _, hlt_i, by omega, ?_, by rw [(hm1 (by assumption)).1, (hm1 (by assumption)).2] <;> rfl, ?_, ?_⟩; (focus ((repeat' (first | exact Wk.nil | refine Wk.any ?_ | (with_reducible refine Wk.same ?_) | refine Wk.of ?_ ?_)) <;> (simp_all))); (focus ((repeat' (first | exact Fits.nil _ | refine Fits.cons ?_ ?_ | exact Fits.any _ | exact Fits.c _ _ | exact Fits.own (by rfl) | exact Fits.ref (by rfl) | exact Fits.clo (by assumption) | exact Fits.clo (clo_of (by rfl)) | exact Fits.clo (clo_fn _))))); (focus (exact fitsM_cons (clo_one s.clo_en) (fitsM_cons (clo_one t.clo_en) (fitsM_cons (clo_rows TPoint.clo_en) (fitsM_cons (clo_rows TPoint.clo_en) (FitsM.nil _)))))))
              | (refine ⟨i + 1, _, hlt_i, by omega, ?_, by rw [(hm0 (by assumption)).1, (hm0 (by assumption)).2] <;> rfl, ?_, ?_⟩; (focus ((repeat' (first | exact Wk.nil | refine Wk.any ?_ | (with_reducible refine Wk.same ?_) | refine Wk.of ?_ ?_)) <;> (simp_all))); (focus ((repeat' (first | exact Fits.nil _ | refine Fits.cons ?_ ?_ | exact Fits.any _ | exact Fits.c _ _ | exact Fits.own (by rfl) | exact Fits.ref (by rfl) | exact Fits.clo (by assumption) | exact Fits.clo (clo_of (by rfl)) | exact Fits.clo (clo_fn _))))); (focus (exact fitsM_cons (clo_one s.clo_en) (fitsM_cons (clo_one t.clo_en) (fitsM_cons (clo_rows TPoint.clo_en) (fitsM_cons (clo_rows TPoint.clo_en) (FitsM.nil _)))))))
    · have e_i : i = 4 := by omega
      have hti : decide ((i : Int) < 4) = false := by simp; omega
      subst e_i
      repeat' ((first
        | ((with_reducible show AL ..); first | refine AL.any ?_ | refine AL.U ?_ | refine AL.F ?_ | refine AL.T ?_ | refine AL.T (h := POp.k Tryz.func199 (hc := by first | exact isOn_s s (endE s t i) | exact isOn_s t (endE s t i))) ?_ | refine AL.W ?_ | refine AL.W (h := fun h => by (try rw [h]); exact POp.k Tryz.func199 (hc := by first | exact isOn_s s (endE s t i) | exact isOn_s t (endE s t i))) ?_ | refine AL.nil ?_)
        | ((with_reducible show DL ..); first | refine DL.any ?_ | refine DL.U ?_ | refine DL.F ?_ | refine DL.T ?_ | refine DL.T (h := POp.k Tryz.func199 (hc := by first | exact isOn_s s (endE s t i) | exact isOn_s t (endE s t i))) ?_ | refine DL.W ?_ | refine DL.W (h := fun h => by (try rw [h]); exact POp.k Tryz.func199 (hc := by first | exact isOn_s s (endE s t i) | exact isOn_s t (endE s t i))) ?_ | refine DL.nil ?_)
        | ((with_reducible show AW ..); first | refine AW.seq ?_ | refine AW.region ?_ | refine AW.skip ?_ | refine AW.dr (id := 6) 19 ?_ | refine AW.dr (id := 10) 10 ?_ | refine AW.cT ?_ | refine AW.cF ?_ | (refine AW.c2 ?_ ?_ <;> (intro h; try simp only [bT, bF] at h)) | refine AW.block ?_ | refine AW.exit ?_ | refine AW.ret ?_)
        | with_reducible refine ifP ?_
        | with_reducible refine ifN ?_) <;> (try dsimp only))
      all_goals first
        | exact Fin.one rfl (RV.tmp (by rfl)) (clo_c _) ⟨by first | rfl | (simp_all; done), rfl⟩

theorem meet_s0 (s t : TSegment) : VCalls Tryz.prog 167 [.agg s.en, .agg t.en] (fun r M => r = I (hmS s t) ∧ M = []) := by
  refine VCalls.body Tryz.func167 rfl 118 rfl (fun E => ?_)
  simp only [List.reduceReplicate, List.cons_append, List.nil_append]
  dsimp only [TPoint.en, TSegment.en]
  repeat' ((first
    | ((with_reducible show AL ..); first | refine AL.any ?_ | refine AL.any (h := POp.k Tryz.func170 (hc := by first | exact isSeg_s s | exact isSeg_s t)) ?_ | refine AL.any (h := POp.k Tryz.func188 (hc := shared_s s t)) ?_ | refine AL.U ?_ | refine AL.F ?_ | refine AL.T ?_ | refine AL.T (h := POp.k Tryz.func170 (hc := by first | exact isSeg_s s | exact isSeg_s t)) ?_ | refine AL.T (h := POp.k Tryz.func187 (hc := min_s _ _)) ?_ | refine AL.T (h := POp.k Tryz.func189 (hc := by first | exact side_s s.a s.b t.a | exact side_s s.a s.b t.b | exact side_s t.a t.b s.a | exact side_s t.a t.b s.b)) ?_ | refine AL.W ?_ | refine AL.W (h := fun h => by (try rw [h]); exact POp.k Tryz.func170 (hc := by first | exact isSeg_s s | exact isSeg_s t)) ?_ | refine AL.W (h := fun h => by (try rw [h]); exact POp.k Tryz.func187 (hc := min_s _ _)) ?_ | refine AL.W (h := fun h => by (try rw [h]); exact POp.k Tryz.func189 (hc := by first | exact side_s s.a s.b t.a | exact side_s s.a s.b t.b | exact side_s t.a t.b s.a | exact side_s t.a t.b s.b)) ?_ | refine AL.nil ?_)
    | ((with_reducible show DL ..); first | refine DL.any ?_ | refine DL.any (h := POp.k Tryz.func186 (hc := max_s _ _)) ?_ | refine DL.any (h := POp.k Tryz.func187 (hc := min_s _ _)) ?_ | refine DL.any (h := POp.k Tryz.func189 (hc := by first | exact side_s s.a s.b t.a | exact side_s s.a s.b t.b | exact side_s t.a t.b s.a | exact side_s t.a t.b s.b)) ?_ | refine DL.U ?_ | refine DL.F ?_ | refine DL.T ?_ | refine DL.T (h := POp.k Tryz.func186 (hc := max_s _ _)) ?_ | refine DL.T (h := POp.k Tryz.func187 (hc := min_s _ _)) ?_ | refine DL.T (h := POp.k Tryz.func189 (hc := by first | exact side_s s.a s.b t.a | exact side_s s.a s.b t.b | exact side_s t.a t.b s.a | exact side_s t.a t.b s.b)) ?_ | refine DL.W ?_ | refine DL.W (h := fun h => by (try rw [h]); exact POp.k Tryz.func186 (hc := max_s _ _)) ?_ | refine DL.W (h := fun h => by (try rw [h]); exact POp.k Tryz.func187 (hc := min_s _ _)) ?_ | refine DL.W (h := fun h => by (try rw [h]); exact POp.k Tryz.func189 (hc := by first | exact side_s s.a s.b t.a | exact side_s s.a s.b t.b | exact side_s t.a t.b s.a | exact side_s t.a t.b s.b)) ?_ | refine DL.nil ?_)
    | ((with_reducible show AW ..); first | refine AW.seq ?_ | refine AW.region ?_ | refine AW.skip ?_ | refine AW.dr (id := 3) 63 ?_ | refine AW.dr (id := 7) 30 ?_ | refine AW.cT ?_ | refine AW.cF ?_ | (refine AW.c2 ?_ ?_ <;> (intro h; try simp only [bT, bF] at h)) | refine AW.block ?_ | refine AW.exit ?_ | refine AW.ret ?_)) <;> (try dsimp only))
  all_goals exact Fin.one rfl (RV.tmp (by rfl)) (clo_c _) ⟨by first | (simp only [hmS, apW]; simp_all; done) | (unfold hmS apW wmul; simp only [*, Bool.false_eq_true, if_false, if_true]; done), rfl⟩

theorem meet_s (s t : TSegment) : VCalls Tryz.prog 167 [.agg s.en, .agg t.en] (fun r M => r = I (hmI s t) ∧ M = []) := hmS_eq s t ▸ meet_s0 s t
theorem isRing_s (l : List TPoint) (hl : l.length ≤ 1048576) : VCalls Tryz.prog 149 [.ro 2 (l.map TPoint.en)] (fun r M => r = B (isRing l) ∧ M = []) := by
  refine VCalls.bodyE Tryz.func149 rfl 55 rfl (fun E hE => ?_)
  simp only [List.reduceReplicate, List.cons_append, List.nil_append]
  have hclo : Clo (.ro 2 (l.map TPoint.en)) := clo_list TPoint.clo_en
  have hclA : Clo (.ro 4 ((arnd l).map TSegment.en)) := clo_list TSegment.clo_en
  have hal := arnd_len l
  have hclo : Clo (.ro 2 (l.map TPoint.en)) := clo_list TPoint.clo_en
  have hclA : Clo (.ro 4 ((arnd l).map TSegment.en)) := clo_list TSegment.clo_en
  have hal := arnd_len l
  repeat' ((first
    | ((with_reducible show AL ..); first | refine AL.any ?_ | refine AL.any (h := POp.k Tryz.func77 (hc := inr_s _ _ _)) ?_ | refine AL.any (h := POp.k Tryz.func169 (hc := arnd_s _ (by assumption))) ?_ | refine AL.any (h := POp.k Tryz.func170 (hc := isSeg_s x)) ?_ | refine AL.U ?_ | refine AL.F ?_ | refine AL.T ?_ | refine AL.W ?_ | refine AL.nil ?_)
    | ((with_reducible show DL ..); first | refine DL.any ?_ | refine DL.any (h := POp.k Tryz.func167 (hc := meet_s x y)) ?_ | refine DL.nil ?_)
    | ((with_reducible show AW ..); first | refine AW.seq ?_ | refine AW.region ?_ | refine AW.skip ?_ | (refine AW.loopD hE (fun i : Nat => [.ro 2 (l.map TPoint.en), .any, .any, .ro 4 ((arnd l).map TSegment.en), I (i : Int), .any, .any, .any, .any, .any, .any, .any, .any, .any, .any, .any, .any, .any, .any, .any, .any, .any, .any, .any, .any, .any, .any, .any, .any, .any, .any, .any, .any, .any, .any, .any, .any, .any, .any, .any, .any, .any, .any, .any, .any, .any, .any, .any, .any, .any, .any, .any, .any, .any, .any, .any]) (fun i => []) (fun i => (arnd l).length - i) (fun i => i ≤ (arnd l).length ∧ rgOk l i = true) 0 ⟨Nat.zero_le _, by simp [rgOk]⟩ ?_ (by first | rfl | (simp; done)) ?_) | refine AW.dr (id := 15) 10 ?_ | refine AW.cT ?_ | refine AW.cF ?_ | (refine AW.c2 ?_ ?_ <;> (intro h; try simp only [bT, bF] at h)) | refine AW.block ?_ | refine AW.exit ?_ | refine AW.ret ?_)
    | with_reducible refine ifP ?_
    | with_reducible refine ifN ?_) <;> (try dsimp only))
  any_goals first | exact Fin.one rfl (RV.tmp (by rfl)) (clo_c _) ⟨by simp_all [isRing, inr] <;> omega, rfl⟩
  · (repeat' (first | exact Wk.nil | refine Wk.any ?_ | (with_reducible refine Wk.same ?_) | refine Wk.of ?_ ?_)) <;> first | rfl | (simp; done)
  · intro i hv_i
    have hclo : Clo (.ro 2 (l.map TPoint.en)) := clo_list TPoint.clo_en
    have hclA : Clo (.ro 4 ((arnd l).map TSegment.en)) := clo_list TSegment.clo_en
    have hal := arnd_len l
    by_cases hlt_i : i < (arnd l).length
    · skip
      obtain ⟨x, hx⟩ : ∃ x, (arnd l)[i]? = some x := ⟨_, List.getElem?_eq_getElem hlt_i⟩
      have hgx := map_get (f := TSegment.en) hx
      have hti := lt_true (f := TSegment.en) hlt_i
      have hni := next_ix hlt_i (by omega)
      have hro := rgOk_succ l i
      have hsx := sAt_of hx
      have hra : rgAt l i = (isSeg x && rgIn l i i) := by unfold rgAt; rw [hsx]
      repeat' ((first
        | ((with_reducible show AL ..); first | refine AL.any ?_ | refine AL.any (h := POp.k Tryz.func77 (hc := inr_s _ _ _)) ?_ | refine AL.any (h := POp.k Tryz.func169 (hc := arnd_s _ (by assumption))) ?_ | refine AL.any (h := POp.k Tryz.func170 (hc := isSeg_s x)) ?_ | refine AL.U ?_ | refine AL.F ?_ | refine AL.T ?_ | refine AL.W ?_ | refine AL.nil ?_)
        | ((with_reducible show DL ..); first | refine DL.any ?_ | refine DL.any (h := POp.k Tryz.func167 (hc := meet_s x y)) ?_ | refine DL.nil ?_)
        | ((with_reducible show AW ..); first | refine AW.seq ?_ | refine AW.region ?_ | refine AW.skip ?_ | (refine AW.loopD hE (fun k : Nat => [.ro 2 (l.map TPoint.en), .any, .any, .ro 4 ((arnd l).map TSegment.en), I (i : Int), I (k : Int), .any, .any, .any, .any, .any, .any, .any, .any, .any, .any, .any, .any, .any, .any, .any, .any, .any, .any, .any, .any, .any, .any, .any, .any, .any, .any, .any, .any, .any, .any, .any, .any, .any, .any, .any, .any, .any, .any, .any, .any, .any, .any, .any, .any, .any, .any, .any, .any, .any, .any]) (fun k => []) (fun k => i - k) (fun k => k ≤ i ∧ rgIn l i k = true) 0 ⟨Nat.zero_le _, by simp [rgIn]⟩ ?_ (by first | rfl | (simp; done)) ?_) | refine AW.dr (id := 15) 10 ?_ | refine AW.cT ?_ | refine AW.cF ?_ | (refine AW.c2 ?_ ?_ <;> (intro h; try simp only [bT, bF] at h)) | refine AW.block ?_ | refine AW.exit ?_ | refine AW.ret ?_)
        | with_reducible refine ifP ?_
        | with_reducible refine ifN ?_) <;> (try dsimp only))
      any_goals first | exact Fin.one rfl (RV.tmp (by rfl)) (clo_c _) ⟨by have e2 := rgOk_not (l := l) (i := i) (n := l.length) (by simp_all) (by omega); simp_all [isRing], rfl⟩
      · (repeat' (first | exact Wk.nil | refine Wk.any ?_ | (with_reducible refine Wk.same ?_) | refine Wk.of ?_ ?_)) <;> first | rfl | (simp; done)
      · intro k hv_k
        have hclo : Clo (.ro 2 (l.map TPoint.en)) := clo_list TPoint.clo_en
        have hclA : Clo (.ro 4 ((arnd l).map TSegment.en)) := clo_list TSegment.clo_en
        have hal := arnd_len l
        by_cases hlt_k : k < i
        · skip
          obtain ⟨y, hy⟩ : ∃ y, (arnd l)[k]? = some y := ⟨_, List.getElem?_eq_getElem (by omega)⟩
          have hgy := map_get (f := TSegment.en) hy
          have htk : decide ((k : Int) < (i : Int)) = true := by simp; omega
          have hnk := next_ix hlt_k (by omega)
          have hsy := sAt_of hy
          have hrk : rgIn l i (k + 1) = (rgIn l i k && (hmI x y == wantN l.length i k)) := by rw [rgIn_succ, hsx, hsy]
          have hen : ((arnd l).map TSegment.en).length = l.length := by simp [hal]
          rcases want_s (n := l.length) (i := i) (k := k) (by omega) hlt_k hl with ⟨w1, wN⟩ | ⟨w1, w2, wN⟩ | ⟨w1, w2, w3, wN⟩ | ⟨w1, w2, w3, wN⟩
          all_goals try rw [← hen] at w3
          all_goals
            repeat' ((first
              | ((with_reducible show AL ..); first | refine AL.any ?_ | refine AL.any (h := POp.k Tryz.func77 (hc := inr_s _ _ _)) ?_ | refine AL.any (h := POp.k Tryz.func169 (hc := arnd_s _ (by assumption))) ?_ | refine AL.any (h := POp.k Tryz.func170 (hc := isSeg_s x)) ?_ | refine AL.U ?_ | refine AL.F ?_ | refine AL.T ?_ | refine AL.W ?_ | refine AL.nil ?_)
              | ((with_reducible show DL ..); first | refine DL.any ?_ | refine DL.any (h := POp.k Tryz.func167 (hc := meet_s x y)) ?_ | refine DL.nil ?_)
              | ((with_reducible show AW ..); first | refine AW.seq ?_ | refine AW.region ?_ | refine AW.skip ?_ | refine AW.dr (id := 15) 10 ?_ | refine AW.cT ?_ | refine AW.cF ?_ | (refine AW.c2 ?_ ?_ <;> (intro h; try simp only [bT, bF] at h)) | refine AW.block ?_ | refine AW.exit ?_ | refine AW.ret ?_)
              | with_reducible refine ifP ?_
              | with_reducible refine ifN ?_) <;> (try dsimp only))
            all_goals first
              | (refine ⟨k + 1, _, ⟨hlt_k, by simp_all⟩, by omega, ?_, rfl, ?_, ?_⟩; (focus ((repeat' (first | exact Wk.nil | refine Wk.any ?_ | (with_reducible refine Wk.same ?_) | refine Wk.of ?_ ?_)) <;> (simp_all))); (focus ((repeat' (first | exact Fits.nil _ | refine Fits.cons ?_ ?_ | exact Fits.any _ | exact Fits.c _ _ | exact Fits.own (by rfl) | exact Fits.ref (by rfl) | exact Fits.clo (by assumption) | exact Fits.clo (clo_of (by rfl)) | exact Fits.clo (clo_fn _))))); (focus (exact FitsM.nil _)))
              | exact Fin.one rfl (RV.tmp (by rfl)) (clo_c _) ⟨by have e1 := rgIn_not (l := l) (i := i) (k := k) (n := i) (by simp_all) hlt_k; have e2 := rgOk_not (l := l) (i := i) (n := l.length) (by simp_all) (by omega); simp_all [isRing], rfl⟩
        · have e_k : k = i := by omega
          have htk : decide ((k : Int) < (i : Int)) = false := by simp; omega
          have e2 := e_k.symm
          subst e2
          repeat' ((first
            | ((with_reducible show AL ..); first | refine AL.any ?_ | refine AL.any (h := POp.k Tryz.func77 (hc := inr_s _ _ _)) ?_ | refine AL.any (h := POp.k Tryz.func169 (hc := arnd_s _ (by assumption))) ?_ | refine AL.any (h := POp.k Tryz.func170 (hc := isSeg_s x)) ?_ | refine AL.U ?_ | refine AL.F ?_ | refine AL.T ?_ | refine AL.W ?_ | refine AL.nil ?_)
            | ((with_reducible show DL ..); first | refine DL.any ?_ | refine DL.any (h := POp.k Tryz.func167 (hc := meet_s x y)) ?_ | refine DL.nil ?_)
            | ((with_reducible show AW ..); first | refine AW.seq ?_ | refine AW.region ?_ | refine AW.skip ?_ | refine AW.dr (id := 15) 10 ?_ | refine AW.cT ?_ | refine AW.cF ?_ | (refine AW.c2 ?_ ?_ <;> (intro h; try simp only [bT, bF] at h)) | refine AW.block ?_ | refine AW.exit ?_ | refine AW.ret ?_)
            | with_reducible refine ifP ?_
            | with_reducible refine ifN ?_) <;> (try dsimp only))
          all_goals first
            | (refine ⟨i + 1, _, ⟨hlt_i, by simp_all⟩, by omega, ?_, rfl, ?_, ?_⟩; (focus ((repeat' (first | exact Wk.nil | refine Wk.any ?_ | (with_reducible refine Wk.same ?_) | refine Wk.of ?_ ?_)) <;> (simp_all))); (focus ((repeat' (first | exact Fits.nil _ | refine Fits.cons ?_ ?_ | exact Fits.any _ | exact Fits.c _ _ | exact Fits.own (by rfl) | exact Fits.ref (by rfl) | exact Fits.clo (by assumption) | exact Fits.clo (clo_of (by rfl)) | exact Fits.clo (clo_fn _))))); (focus (exact FitsM.nil _)))
    · have e_i : i = (arnd l).length := by omega
      have hti := lt_false (f := TSegment.en) (show ¬ i < (arnd l).length by omega)
      subst e_i
      repeat' ((first
        | ((with_reducible show AL ..); first | refine AL.any ?_ | refine AL.any (h := POp.k Tryz.func77 (hc := inr_s _ _ _)) ?_ | refine AL.any (h := POp.k Tryz.func169 (hc := arnd_s _ (by assumption))) ?_ | refine AL.any (h := POp.k Tryz.func170 (hc := isSeg_s x)) ?_ | refine AL.U ?_ | refine AL.F ?_ | refine AL.T ?_ | refine AL.W ?_ | refine AL.nil ?_)
        | ((with_reducible show DL ..); first | refine DL.any ?_ | refine DL.any (h := POp.k Tryz.func167 (hc := meet_s x y)) ?_ | refine DL.nil ?_)
        | ((with_reducible show AW ..); first | refine AW.seq ?_ | refine AW.region ?_ | refine AW.skip ?_ | refine AW.dr (id := 15) 10 ?_ | refine AW.cT ?_ | refine AW.cF ?_ | (refine AW.c2 ?_ ?_ <;> (intro h; try simp only [bT, bF] at h)) | refine AW.block ?_ | refine AW.exit ?_ | refine AW.ret ?_)
        | with_reducible refine ifP ?_
        | with_reducible refine ifN ?_) <;> (try dsimp only))
      all_goals first
        | exact Fin.one rfl (RV.tmp (by rfl)) (clo_c _) ⟨by first | (simp_all [isRing]; done) | (simp_all [isRing, inr] <;> omega), rfl⟩

theorem isRing_i (l : List TPoint) (hl : l.length ≤ 1048576) : VCalls Tryz.prog 155 [.ro 2 (l.map TPoint.en)] (fun r M => r = B (isRing l) ∧ M = []) := by
  refine VCalls.bodyE Tryz.func155 rfl 59 rfl (fun E hE => ?_)
  simp only [List.reduceReplicate, List.cons_append, List.nil_append]
  have hclo : Clo (.ro 2 (l.map TPoint.en)) := clo_list TPoint.clo_en
  have hclA : Clo (.ro 4 ((arnd l).map TSegment.en)) := clo_list TSegment.clo_en
  have hal := arnd_len l
  have hclo : Clo (.ro 2 (l.map TPoint.en)) := clo_list TPoint.clo_en
  have hclA : Clo (.ro 4 ((arnd l).map TSegment.en)) := clo_list TSegment.clo_en
  have hal := arnd_len l
  repeat' ((first
    | ((with_reducible show AL ..); first | refine AL.any ?_ | refine AL.any (h := POp.k Tryz.func176 (hc := arnd_i _ (by assumption))) ?_ | refine AL.any (h := POp.k Tryz.func177 (hc := isSeg_i x)) ?_ | refine AL.U ?_ | refine AL.F ?_ | refine AL.T ?_ | refine AL.W ?_ | refine AL.nil ?_)
    | ((with_reducible show DL ..); first | refine DL.any ?_ | refine DL.any (h := POp.k Tryz.func175 (hc := meet_i x y)) ?_ | refine DL.nil ?_)
    | ((with_reducible show AW ..); first | refine AW.seq ?_ | refine AW.region ?_ | refine AW.skip ?_ | (refine AW.loopD hE (fun i : Nat => [.ro 2 (l.map TPoint.en), .any, .any, .ro 4 ((arnd l).map TSegment.en), .any, .any, .any, .any, .any, .any, .any, .any, .any, .any, .any, .any, .any, .any, I (((arnd l).map TSegment.en).length : Int), I (i : Int), .any, .any, .any, .any, .any, .any, .any, .any, .any, .any, .any, .any, .any, .any, .any, .any, .any, .any, .any, .any, .any, .any, .any, .any, .any, .any, .any, .any, .any, .any, .any, .any, .any, .any, .any, .any, .any, .any, .any, .any]) (fun i => []) (fun i => (arnd l).length - i) (fun i => i ≤ (arnd l).length ∧ rgOk l i = true) 0 ⟨Nat.zero_le _, by simp [rgOk]⟩ ?_ (by first | rfl | (simp; done)) ?_) | refine AW.dr (id := 15) 10 ?_ | refine AW.cT ?_ | refine AW.cF ?_ | (refine AW.c2 ?_ ?_ <;> (intro h; try simp only [bT, bF] at h)) | refine AW.block ?_ | refine AW.exit ?_ | refine AW.ret ?_)
    | with_reducible refine ifP ?_
    | with_reducible refine ifN ?_) <;> (try dsimp only))
  any_goals first | exact Fin.one rfl (RV.tmp (by rfl)) (clo_c _) ⟨by simp_all [isRing, inr] <;> omega, rfl⟩
  · (repeat' (first | exact Wk.nil | refine Wk.any ?_ | (with_reducible refine Wk.same ?_) | refine Wk.of ?_ ?_)) <;> first | rfl | (simp; done)
  · intro i hv_i
    have hclo : Clo (.ro 2 (l.map TPoint.en)) := clo_list TPoint.clo_en
    have hclA : Clo (.ro 4 ((arnd l).map TSegment.en)) := clo_list TSegment.clo_en
    have hal := arnd_len l
    by_cases hlt_i : i < (arnd l).length
    · skip
      obtain ⟨x, hx⟩ : ∃ x, (arnd l)[i]? = some x := ⟨_, List.getElem?_eq_getElem hlt_i⟩
      have hgx := map_get (f := TSegment.en) hx
      have hti := lt_true (f := TSegment.en) hlt_i
      have hni := next_ix hlt_i (by omega)
      have hro := rgOk_succ l i
      have hsx := sAt_of hx
      have hra : rgAt l i = (isSeg x && rgIn l i i) := by unfold rgAt; rw [hsx]
      repeat' ((first
        | ((with_reducible show AL ..); first | refine AL.any ?_ | refine AL.any (h := POp.k Tryz.func176 (hc := arnd_i _ (by assumption))) ?_ | refine AL.any (h := POp.k Tryz.func177 (hc := isSeg_i x)) ?_ | refine AL.U ?_ | refine AL.F ?_ | refine AL.T ?_ | refine AL.W ?_ | refine AL.nil ?_)
        | ((with_reducible show DL ..); first | refine DL.any ?_ | refine DL.any (h := POp.k Tryz.func175 (hc := meet_i x y)) ?_ | refine DL.nil ?_)
        | ((with_reducible show AW ..); first | refine AW.seq ?_ | refine AW.region ?_ | refine AW.skip ?_ | (refine AW.loopD hE (fun k : Nat => [.ro 2 (l.map TPoint.en), .any, .any, .ro 4 ((arnd l).map TSegment.en), I (i : Int), .any, .any, .any, .any, .any, .any, .any, .any, .any, .any, .any, .any, .any, I (((arnd l).map TSegment.en).length : Int), I (i : Int), .any, .any, .any, .any, .any, .any, .any, .any, I (i : Int), I (k : Int), .any, .any, .any, .any, .any, .any, .any, .any, .any, .any, .any, .any, .any, .any, .any, .any, .any, .any, .any, .any, .any, .any, .any, .any, .any, .any, .any, .any, .any, .any]) (fun k => []) (fun k => i - k) (fun k => k ≤ i ∧ rgIn l i k = true) 0 ⟨Nat.zero_le _, by simp [rgIn]⟩ ?_ (by first | rfl | (simp; done)) ?_) | refine AW.dr (id := 15) 10 ?_ | refine AW.cT ?_ | refine AW.cF ?_ | (refine AW.c2 ?_ ?_ <;> (intro h; try simp only [bT, bF] at h)) | refine AW.block ?_ | refine AW.exit ?_ | refine AW.ret ?_)
        | with_reducible refine ifP ?_
        | with_reducible refine ifN ?_) <;> (try dsimp only))
      any_goals first | exact Fin.one rfl (RV.tmp (by rfl)) (clo_c _) ⟨by have e2 := rgOk_not (l := l) (i := i) (n := l.length) (by simp_all) (by omega); simp_all [isRing], rfl⟩
      · (repeat' (first | exact Wk.nil | refine Wk.any ?_ | (with_reducible refine Wk.same ?_) | refine Wk.of ?_ ?_)) <;> first | rfl | (simp; done)
      · intro k hv_k
        have hclo : Clo (.ro 2 (l.map TPoint.en)) := clo_list TPoint.clo_en
        have hclA : Clo (.ro 4 ((arnd l).map TSegment.en)) := clo_list TSegment.clo_en
        have hal := arnd_len l
        by_cases hlt_k : k < i
        · skip
          obtain ⟨y, hy⟩ : ∃ y, (arnd l)[k]? = some y := ⟨_, List.getElem?_eq_getElem (by omega)⟩
          have hgy := map_get (f := TSegment.en) hy
          have htk : decide ((k : Int) < (i : Int)) = true := by simp; omega
          have hnk := next_ix hlt_k (by omega)
          have hsy := sAt_of hy
          have hrk : rgIn l i (k + 1) = (rgIn l i k && (hmI x y == wantN l.length i k)) := by rw [rgIn_succ, hsx, hsy]
          have hen : ((arnd l).map TSegment.en).length = l.length := by simp [hal]
          rcases want_i (n := l.length) (i := i) (k := k) (by omega) hlt_k hl with ⟨w1, wN⟩ | ⟨w1, w2, wN⟩ | ⟨w1, w2, w3, wN⟩ | ⟨w1, w2, w3, wN⟩
          all_goals try rw [← hen] at w3
          all_goals
            repeat' ((first
              | ((with_reducible show AL ..); first | refine AL.any ?_ | refine AL.any (h := POp.k Tryz.func176 (hc := arnd_i _ (by assumption))) ?_ | refine AL.any (h := POp.k Tryz.func177 (hc := isSeg_i x)) ?_ | refine AL.U ?_ | refine AL.F ?_ | refine AL.T ?_ | refine AL.W ?_ | refine AL.nil ?_)
              | ((with_reducible show DL ..); first | refine DL.any ?_ | refine DL.any (h := POp.k Tryz.func175 (hc := meet_i x y)) ?_ | refine DL.nil ?_)
              | ((with_reducible show AW ..); first | refine AW.seq ?_ | refine AW.region ?_ | refine AW.skip ?_ | refine AW.dr (id := 15) 10 ?_ | refine AW.cT ?_ | refine AW.cF ?_ | (refine AW.c2 ?_ ?_ <;> (intro h; try simp only [bT, bF] at h)) | refine AW.block ?_ | refine AW.exit ?_ | refine AW.ret ?_)
              | with_reducible refine ifP ?_
              | with_reducible refine ifN ?_) <;> (try dsimp only))
            all_goals first
              | (refine ⟨k + 1, _, ⟨hlt_k, by simp_all⟩, by omega, ?_, rfl, ?_, ?_⟩; (focus ((repeat' (first | exact Wk.nil | refine Wk.any ?_ | (with_reducible refine Wk.same ?_) | refine Wk.of ?_ ?_)) <;> (simp_all))); (focus ((repeat' (first | exact Fits.nil _ | refine Fits.cons ?_ ?_ | exact Fits.any _ | exact Fits.c _ _ | exact Fits.own (by rfl) | exact Fits.ref (by rfl) | exact Fits.clo (by assumption) | exact Fits.clo (clo_of (by rfl)) | exact Fits.clo (clo_fn _))))); (focus (exact FitsM.nil _)))
              | exact Fin.one rfl (RV.tmp (by rfl)) (clo_c _) ⟨by have e1 := rgIn_not (l := l) (i := i) (k := k) (n := i) (by simp_all) hlt_k; have e2 := rgOk_not (l := l) (i := i) (n := l.length) (by simp_all) (by omega); simp_all [isRing], rfl⟩
        · have e_k : k = i := by omega
          have htk : decide ((k : Int) < (i : Int)) = false := by simp; omega
          have e2 := e_k.symm
          subst e2
          repeat' ((first
            | ((with_reducible show AL ..); first | refine AL.any ?_ | refine AL.any (h := POp.k Tryz.func176 (hc := arnd_i _ (by assumption))) ?_ | refine AL.any (h := POp.k Tryz.func177 (hc := isSeg_i x)) ?_ | refine AL.U ?_ | refine AL.F ?_ | refine AL.T ?_ | refine AL.W ?_ | refine AL.nil ?_)
            | ((with_reducible show DL ..); first | refine DL.any ?_ | refine DL.any (h := POp.k Tryz.func175 (hc := meet_i x y)) ?_ | refine DL.nil ?_)
            | ((with_reducible show AW ..); first | refine AW.seq ?_ | refine AW.region ?_ | refine AW.skip ?_ | refine AW.dr (id := 15) 10 ?_ | refine AW.cT ?_ | refine AW.cF ?_ | (refine AW.c2 ?_ ?_ <;> (intro h; try simp only [bT, bF] at h)) | refine AW.block ?_ | refine AW.exit ?_ | refine AW.ret ?_)
            | with_reducible refine ifP ?_
            | with_reducible refine ifN ?_) <;> (try dsimp only))
          all_goals first
            | (refine ⟨i + 1, _, ⟨hlt_i, by simp_all⟩, by omega, ?_, rfl, ?_, ?_⟩; (focus ((repeat' (first | exact Wk.nil | refine Wk.any ?_ | (with_reducible refine Wk.same ?_) | refine Wk.of ?_ ?_)) <;> (simp_all))); (focus ((repeat' (first | exact Fits.nil _ | refine Fits.cons ?_ ?_ | exact Fits.any _ | exact Fits.c _ _ | exact Fits.own (by rfl) | exact Fits.ref (by rfl) | exact Fits.clo (by assumption) | exact Fits.clo (clo_of (by rfl)) | exact Fits.clo (clo_fn _))))); (focus (exact FitsM.nil _)))
    · have e_i : i = (arnd l).length := by omega
      have hti := lt_false (f := TSegment.en) (show ¬ i < (arnd l).length by omega)
      subst e_i
      repeat' ((first
        | ((with_reducible show AL ..); first | refine AL.any ?_ | refine AL.any (h := POp.k Tryz.func176 (hc := arnd_i _ (by assumption))) ?_ | refine AL.any (h := POp.k Tryz.func177 (hc := isSeg_i x)) ?_ | refine AL.U ?_ | refine AL.F ?_ | refine AL.T ?_ | refine AL.W ?_ | refine AL.nil ?_)
        | ((with_reducible show DL ..); first | refine DL.any ?_ | refine DL.any (h := POp.k Tryz.func175 (hc := meet_i x y)) ?_ | refine DL.nil ?_)
        | ((with_reducible show AW ..); first | refine AW.seq ?_ | refine AW.region ?_ | refine AW.skip ?_ | refine AW.dr (id := 15) 10 ?_ | refine AW.cT ?_ | refine AW.cF ?_ | (refine AW.c2 ?_ ?_ <;> (intro h; try simp only [bT, bF] at h)) | refine AW.block ?_ | refine AW.exit ?_ | refine AW.ret ?_)
        | with_reducible refine ifP ?_
        | with_reducible refine ifN ?_) <;> (try dsimp only))
      all_goals first
        | exact Fin.one rfl (RV.tmp (by rfl)) (clo_c _) ⟨by first | (simp_all [isRing]; done) | (simp_all [isRing, inr] <;> omega), rfl⟩

theorem segs_s (l : List TPoint) (hl : l.length ≤ 1048576) : VCalls Tryz.prog 166 [.ro 2 (l.map TPoint.en)] (fun r M => r = .ro 4 ((segs l).map TSegment.en) ∧ M = []) := by
  refine VCalls.bodyE Tryz.func166 rfl 29 rfl (fun E hE => ?_)
  simp only [List.reduceReplicate, List.cons_append, List.nil_append]
  have hclo : Clo (.ro 2 (l.map TPoint.en)) := clo_list TPoint.clo_en
  repeat' ((first
    | ((with_reducible show AL ..); first | refine AL.any ?_ | refine AL.U ?_ | refine AL.F ?_ | refine AL.T ?_ | refine AL.T (h := POp.k Tryz.func168 (hc := isLine_s _ (by assumption))) ?_ | refine AL.W ?_ | refine AL.W (h := fun h => by (try rw [h]); exact POp.k Tryz.func168 (hc := isLine_s _ (by assumption))) ?_ | refine AL.nil ?_)
    | ((with_reducible show DL ..); first | refine DL.any ?_ | refine DL.nil ?_)
    | ((with_reducible show DLM ..); first | refine DLM.any ?_ | refine DLM.mk ?_ | refine DLM.nil ?_)
    | ((with_reducible show AW ..); first | refine AW.seq ?_ | refine AW.region ?_ | refine AW.skip ?_ | (refine AW.loopD hE (fun i : Nat => [.ro 2 (l.map TPoint.en), .any, .any, .own 0 i, I ((i : Int) + 1), .any, .any, .any, .any, .any, .any, .any, .any, .any, .any, .any, .any, .any, .any, .any, .any, .any, .any, .any, .any, .any, .any, .any, .any, .any]) (fun i => [some ⟨177, 4, i, false, ((segs l).take i).map TSegment.en⟩]) (fun i => (segs l).length - i) (fun i => i ≤ (segs l).length) 0 (Nat.zero_le _) ?_ (by first | rfl | (simp [fil_zero]; done)) ?_) | refine AW.drM (id := 5) 12 11 ?_ | refine AW.cT ?_ | refine AW.cF ?_ | (refine AW.c2 ?_ ?_ <;> (intro h; try simp only [bT, bF] at h)) | refine AW.block ?_ | refine AW.exit ?_ | refine AW.ret ?_)
    | with_reducible refine ifP ?_
    | with_reducible refine ifN ?_) <;> (try dsimp only))
  · (repeat' (first | exact Wk.nil | refine Wk.any ?_ | (with_reducible refine Wk.same ?_) | refine Wk.of ?_ ?_)) <;> first | rfl | (simp)
  · intro i hi
    have hclo : Clo (.ro 2 (l.map TPoint.en)) := clo_list TPoint.clo_en
    have hsl := segs_le l
    by_cases hlt : i < (segs l).length
    · skip
      obtain ⟨a, b, hL, hi1, ha, hb, hs⟩ := segs_get hlt
      have ht : (decide ((i : Int) + 1 < ((l.map TPoint.en).length : Int)) && isLine l) = true := by simp [hL]; omega
      have e1 : IntKind.i64.wrap ((i : Int) + 1 - 1) = (i : Int) := by rw [w64 (by omega) (by omega)]; omega
      have h0 : 0 ≤ IntKind.i64.wrap ((i : Int) + 1 - 1) := by omega
      have hga : (l.map TPoint.en)[(IntKind.i64.wrap ((i : Int) + 1 - 1)).toNat]? = some a.en := by rw [e1]; exact map_get ha
      have hgb : (l.map TPoint.en)[((i : Int) + 1).toNat]? = some b.en := by rw [show ((i : Int) + 1).toNat = i + 1 by omega, List.getElem?_map, hb]; rfl
      have h01 : 0 ≤ (i : Int) + 1 := by omega
      have hn : IntKind.i64.wrap ((i : Int) + 1 + 1) = ((i + 1 : Nat) : Int) + 1 := by rw [w64 (by omega) (by omega)]; omega
      have hm := map_take_succ (f := TSegment.en) hs
      repeat' ((first
        | ((with_reducible show AL ..); first | refine AL.any ?_ | refine AL.U ?_ | refine AL.F ?_ | refine AL.T ?_ | refine AL.T (h := POp.k Tryz.func168 (hc := isLine_s _ (by assumption))) ?_ | refine AL.W ?_ | refine AL.W (h := fun h => by (try rw [h]); exact POp.k Tryz.func168 (hc := isLine_s _ (by assumption))) ?_ | refine AL.nil ?_)
        | ((with_reducible show DL ..); first | refine DL.any ?_ | refine DL.nil ?_)
        | ((with_reducible show DLM ..); first | refine DLM.any ?_ | refine DLM.mk ?_ | refine DLM.nil ?_)
        | ((with_reducible show AW ..); first | refine AW.seq ?_ | refine AW.region ?_ | refine AW.skip ?_ | refine AW.drM (id := 5) 12 11 ?_ | refine AW.cT ?_ | refine AW.cF ?_ | (refine AW.c2 ?_ ?_ <;> (intro h; try simp only [bT, bF] at h)) | refine AW.block ?_ | refine AW.exit ?_ | refine AW.ret ?_)
        | with_reducible refine ifP ?_
        | with_reducible refine ifN ?_) <;> (try dsimp only))
      all_goals first
        | (refine ⟨i + 1, _, hlt, by omega, ?_, by rw [hm] <;> rfl, ?_, ?_⟩; (focus ((repeat' (first | exact Wk.nil | refine Wk.any ?_ | (with_reducible refine Wk.same ?_) | refine Wk.of ?_ ?_)) <;> (simp_all))); (focus ((repeat' (first | exact Fits.nil _ | refine Fits.cons ?_ ?_ | exact Fits.any _ | exact Fits.c _ _ | exact Fits.own (by rfl) | exact Fits.ref (by rfl) | exact Fits.clo (by assumption) | exact Fits.clo (clo_of (by rfl)) | exact Fits.clo (clo_fn _))))); (focus (exact fits_row (clo_rows TSegment.clo_en))))
    · have e : i = (segs l).length := by omega
      have hsl := segs_le l
      have ht : (decide ((i : Int) + 1 < ((l.map TPoint.en).length : Int)) && isLine l) = false := by
        cases hL : isLine l
        · simp_all
        · have := segs_len hL; have := isLine_len hL; simp; omega
      subst e
      repeat' ((first
        | ((with_reducible show AL ..); first | refine AL.any ?_ | refine AL.U ?_ | refine AL.F ?_ | refine AL.T ?_ | refine AL.T (h := POp.k Tryz.func168 (hc := isLine_s _ (by assumption))) ?_ | refine AL.W ?_ | refine AL.W (h := fun h => by (try rw [h]); exact POp.k Tryz.func168 (hc := isLine_s _ (by assumption))) ?_ | refine AL.nil ?_)
        | ((with_reducible show DL ..); first | refine DL.any ?_ | refine DL.nil ?_)
        | ((with_reducible show DLM ..); first | refine DLM.any ?_ | refine DLM.mk ?_ | refine DLM.nil ?_)
        | ((with_reducible show AW ..); first | refine AW.seq ?_ | refine AW.region ?_ | refine AW.skip ?_ | (refine AW.freezeRet (t := 2) (id := 0) rfl rfl rfl rfl (clo_rows TSegment.clo_en) ?_; (try simp only [List.take_length]); try dsimp only [dput, List.set, cond_true, cond_false, Nat.zero_add, Nat.add_zero, Nat.reduceAdd, splice, List.take, List.drop, List.length, List.nil_append, List.cons_append, List.append, TPoint.en, TSegment.en, TBox.en, TFeature.en, TMeet.en, TPlace.en, TCover.en, TLabel.en, TPiece.en, TLevel.en, TChart.en, TReason.en, TEdit.en, TEntry.en, TEdition.en, TListing.en, TAtlas.en, TEvent.en, TWindow.en]) | refine AW.drM (id := 5) 12 11 ?_ | refine AW.cT ?_ | refine AW.cF ?_ | (refine AW.c2 ?_ ?_ <;> (intro h; try simp only [bT, bF] at h)) | refine AW.block ?_ | refine AW.exit ?_ | refine AW.ret ?_)
        | with_reducible refine ifP ?_
        | with_reducible refine ifN ?_) <;> (try dsimp only))
      all_goals exact Fin.one rfl (RV.tmp (by rfl)) (clo_list TSegment.clo_en) ⟨rfl, rfl⟩

theorem segs_i (l : List TPoint) (hl : l.length ≤ 1048576) : VCalls Tryz.prog 174 [.ro 2 (l.map TPoint.en)] (fun r M => r = .ro 4 ((segs l).map TSegment.en) ∧ M = []) := by
  refine VCalls.bodyE Tryz.func174 rfl 29 rfl (fun E hE => ?_)
  simp only [List.reduceReplicate, List.cons_append, List.nil_append]
  have hclo : Clo (.ro 2 (l.map TPoint.en)) := clo_list TPoint.clo_en
  repeat' ((first
    | ((with_reducible show AL ..); first | refine AL.any ?_ | refine AL.any (h := POp.k Tryz.func173 (hc := isLine_i _ (by assumption))) ?_ | refine AL.nil ?_)
    | ((with_reducible show DL ..); first | refine DL.any ?_ | refine DL.nil ?_)
    | ((with_reducible show DLM ..); first | refine DLM.any ?_ | refine DLM.mk ?_ | refine DLM.nil ?_)
    | ((with_reducible show AW ..); first | refine AW.seq ?_ | refine AW.region ?_ | refine AW.skip ?_ | (refine AW.freezeRet (t := 2) (id := 0) rfl rfl rfl rfl clo_rows_nil ?_; (try simp only [List.take_length]); try dsimp only [dput, List.set, cond_true, cond_false, Nat.zero_add, Nat.add_zero, Nat.reduceAdd, splice, List.take, List.drop, List.length, List.nil_append, List.cons_append, List.append, TPoint.en, TSegment.en, TBox.en, TFeature.en, TMeet.en, TPlace.en, TCover.en, TLabel.en, TPiece.en, TLevel.en, TChart.en, TReason.en, TEdit.en, TEntry.en, TEdition.en, TListing.en, TAtlas.en, TEvent.en, TWindow.en]) | (refine AW.loopD hE (fun i : Nat => [.ro 2 (l.map TPoint.en), .any, .any, .own 0 i, I ((i : Int) + 1), .any, .any, .any, .any, .any, .any, .any, .any, .any, .any, .any, .any, .any, .any, .any, .any, .any, .any, .any, .any, .any, .any, .any, .any, .any]) (fun i => [some ⟨177, 4, i, false, ((segs l).take i).map TSegment.en⟩]) (fun i => (segs l).length - i) (fun i => i ≤ (segs l).length) 0 (Nat.zero_le _) ?_ (by first | rfl | (simp [fil_zero]; done)) ?_) | refine AW.drM (id := 7) 12 11 ?_ | refine AW.cT ?_ | refine AW.cF ?_ | (refine AW.c2 ?_ ?_ <;> (intro h; try simp only [bT, bF] at h)) | refine AW.block ?_ | refine AW.exit ?_ | refine AW.ret ?_)
    | with_reducible refine ifP ?_
    | with_reducible refine ifN ?_) <;> (try dsimp only))
  · exact Fin.one rfl (RV.tmp (by rfl)) (Clo.ro fun r hr => by simp at hr) ⟨by rw [segs_nil (by assumption)]; rfl, rfl⟩
  · (repeat' (first | exact Wk.nil | refine Wk.any ?_ | (with_reducible refine Wk.same ?_) | refine Wk.of ?_ ?_)) <;> first | rfl | (simp)
  · intro i hi
    have hclo : Clo (.ro 2 (l.map TPoint.en)) := clo_list TPoint.clo_en
    have hsl := segs_le l
    by_cases hlt : i < (segs l).length
    · skip
      obtain ⟨a, b, hL, hi1, ha, hb, hs⟩ := segs_get hlt
      have ht : decide ((i : Int) + 1 < ((l.map TPoint.en).length : Int)) = true := by simp []; omega
      have e1 : IntKind.i64.wrap ((i : Int) + 1 - 1) = (i : Int) := by rw [w64 (by omega) (by omega)]; omega
      have h0 : 0 ≤ IntKind.i64.wrap ((i : Int) + 1 - 1) := by omega
      have hga : (l.map TPoint.en)[(IntKind.i64.wrap ((i : Int) + 1 - 1)).toNat]? = some a.en := by rw [e1]; exact map_get ha
      have hgb : (l.map TPoint.en)[((i : Int) + 1).toNat]? = some b.en := by rw [show ((i : Int) + 1).toNat = i + 1 by omega, List.getElem?_map, hb]; rfl
      have h01 : 0 ≤ (i : Int) + 1 := by omega
      have hn : IntKind.i64.wrap ((i : Int) + 1 + 1) = ((i + 1 : Nat) : Int) + 1 := by rw [w64 (by omega) (by omega)]; omega
      have hm := map_take_succ (f := TSegment.en) hs
      repeat' ((first
        | ((with_reducible show AL ..); first | refine AL.any ?_ | refine AL.any (h := POp.k Tryz.func173 (hc := isLine_i _ (by assumption))) ?_ | refine AL.nil ?_)
        | ((with_reducible show DL ..); first | refine DL.any ?_ | refine DL.nil ?_)
        | ((with_reducible show DLM ..); first | refine DLM.any ?_ | refine DLM.mk ?_ | refine DLM.nil ?_)
        | ((with_reducible show AW ..); first | refine AW.seq ?_ | refine AW.region ?_ | refine AW.skip ?_ | (refine AW.freezeRet (t := 2) (id := 0) rfl rfl rfl rfl clo_rows_nil ?_; (try simp only [List.take_length]); try dsimp only [dput, List.set, cond_true, cond_false, Nat.zero_add, Nat.add_zero, Nat.reduceAdd, splice, List.take, List.drop, List.length, List.nil_append, List.cons_append, List.append, TPoint.en, TSegment.en, TBox.en, TFeature.en, TMeet.en, TPlace.en, TCover.en, TLabel.en, TPiece.en, TLevel.en, TChart.en, TReason.en, TEdit.en, TEntry.en, TEdition.en, TListing.en, TAtlas.en, TEvent.en, TWindow.en]) | refine AW.drM (id := 7) 12 11 ?_ | refine AW.cT ?_ | refine AW.cF ?_ | (refine AW.c2 ?_ ?_ <;> (intro h; try simp only [bT, bF] at h)) | refine AW.block ?_ | refine AW.exit ?_ | refine AW.ret ?_)
        | with_reducible refine ifP ?_
        | with_reducible refine ifN ?_) <;> (try dsimp only))
      all_goals first
        | (refine ⟨i + 1, _, hlt, by omega, ?_, by rw [hm] <;> rfl, ?_, ?_⟩; (focus ((repeat' (first | exact Wk.nil | refine Wk.any ?_ | (with_reducible refine Wk.same ?_) | refine Wk.of ?_ ?_)) <;> (simp_all))); (focus ((repeat' (first | exact Fits.nil _ | refine Fits.cons ?_ ?_ | exact Fits.any _ | exact Fits.c _ _ | exact Fits.own (by rfl) | exact Fits.ref (by rfl) | exact Fits.clo (by assumption) | exact Fits.clo (clo_of (by rfl)) | exact Fits.clo (clo_fn _))))); (focus (exact fits_row (clo_rows TSegment.clo_en))))
    · have e : i = (segs l).length := by omega
      have hsl := segs_le l
      have ht : decide ((i : Int) + 1 < ((l.map TPoint.en).length : Int)) = false := by
        cases hL : isLine l
        · simp_all
        · have := segs_len hL; have := isLine_len hL; simp; omega
      subst e
      repeat' ((first
        | ((with_reducible show AL ..); first | refine AL.any ?_ | refine AL.any (h := POp.k Tryz.func173 (hc := isLine_i _ (by assumption))) ?_ | refine AL.nil ?_)
        | ((with_reducible show DL ..); first | refine DL.any ?_ | refine DL.nil ?_)
        | ((with_reducible show DLM ..); first | refine DLM.any ?_ | refine DLM.mk ?_ | refine DLM.nil ?_)
        | ((with_reducible show AW ..); first | refine AW.seq ?_ | refine AW.region ?_ | refine AW.skip ?_ | (refine AW.freezeRet (t := 2) (id := 0) rfl rfl rfl rfl clo_rows_nil ?_; (try simp only [List.take_length]); try dsimp only [dput, List.set, cond_true, cond_false, Nat.zero_add, Nat.add_zero, Nat.reduceAdd, splice, List.take, List.drop, List.length, List.nil_append, List.cons_append, List.append, TPoint.en, TSegment.en, TBox.en, TFeature.en, TMeet.en, TPlace.en, TCover.en, TLabel.en, TPiece.en, TLevel.en, TChart.en, TReason.en, TEdit.en, TEntry.en, TEdition.en, TListing.en, TAtlas.en, TEvent.en, TWindow.en]) | (refine AW.freezeRet (t := 2) (id := 0) rfl rfl rfl rfl (clo_rows TSegment.clo_en) ?_; (try simp only [List.take_length]); try dsimp only [dput, List.set, cond_true, cond_false, Nat.zero_add, Nat.add_zero, Nat.reduceAdd, splice, List.take, List.drop, List.length, List.nil_append, List.cons_append, List.append, TPoint.en, TSegment.en, TBox.en, TFeature.en, TMeet.en, TPlace.en, TCover.en, TLabel.en, TPiece.en, TLevel.en, TChart.en, TReason.en, TEdit.en, TEntry.en, TEdition.en, TListing.en, TAtlas.en, TEvent.en, TWindow.en]) | refine AW.drM (id := 7) 12 11 ?_ | refine AW.cT ?_ | refine AW.cF ?_ | (refine AW.c2 ?_ ?_ <;> (intro h; try simp only [bT, bF] at h)) | refine AW.block ?_ | refine AW.exit ?_ | refine AW.ret ?_)
        | with_reducible refine ifP ?_
        | with_reducible refine ifN ?_) <;> (try dsimp only))
      all_goals exact Fin.one rfl (RV.tmp (by rfl)) (clo_list TSegment.clo_en) ⟨rfl, rfl⟩

end Go.Proofs.YtacbpfbelcdeiaaGreat.Abs
