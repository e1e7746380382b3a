/- The walks of a ring's segments. -/
import Derived.Test.YtolmophnimngjaaGreatWkStep
import Derived.Test.YtolmophnimngjaaGreatWkHm
namespace Go.Proofs.YtolmophnimngjaaGreat.Abs
open Go.Proofs Go.RowKit
set_option linter.unusedVariables false
set_option linter.unusedSimpArgs false
attribute [local irreducible] OpA AL AW DL DLM DLR DLS QOp POp VCalls VCallsI
def arnd (l : List TPoint) : List TSegment := List.zipWith TSegment.mk l (l.tail ++ l.take 1)
theorem arnd_len (l : List TPoint) : (arnd l).length = l.length := by
  cases l
  · simp [arnd]
  · simp [arnd]
theorem arnd_get {l : List TPoint} {i : Nat} (h : i < l.length) : ∃ a b, l[i]? = some a ∧ l[(i + 1) % l.length]? = some b ∧ (arnd l)[i]? = some ⟨a, b⟩ := by
  refine ⟨l[i], l[(i + 1) % l.length]'(Nat.mod_lt _ (by omega)), List.getElem?_eq_getElem _, List.getElem?_eq_getElem _, ?_⟩
  unfold arnd
  rw [List.getElem?_zipWith]
  by_cases h1 : i + 1 < l.length
  · have e : (i + 1) % l.length = i + 1 := Nat.mod_eq_of_lt h1
    rw [List.getElem?_append_left (by simp; omega), List.getElem?_tail]
    simp [e, List.getElem?_eq_getElem h, List.getElem?_eq_getElem h1]
  · have e : (i + 1) % l.length = 0 := by rw [show i + 1 = l.length by omega, Nat.mod_self]
    rw [List.getElem?_append_right (by simp; omega)]
    have e2 : i - l.tail.length = 0 := by simp; omega
    rw [e2]
    simp [e, List.getElem?_eq_getElem h, List.getElem?_take, List.getElem?_eq_getElem (show 0 < l.length by omega)]
theorem arnd_take (l : List TPoint) : (arnd l).take l.length = arnd l := by rw [← arnd_len l, List.take_length]
def wantN (n i k : Nat) : Int := if k + 1 = i ∨ (k = 0 ∧ i + 1 = n) then 1 else 0
theorem arnd_ix {l : List TPoint} {i : Nat} (h : i < l.length) (hl : l.length ≤ 1048576) : (IntKind.i64.wrap ((i : Int) + 1)).tmod ((l.map TPoint.en).length : Int) = (((i + 1) % l.length : Nat) : Int) := by
  rw [w64 (by omega) (by omega), List.length_map, show (i : Int) + 1 = ((i + 1 : Nat) : Int) by omega]
  exact (Int.ofNat_tmod _ _).symm
theorem want_s {n i k : Nat} (hi : i < n) (hk : k < i) (hn : n ≤ 1048576) :
    ((IntKind.i64.wrap ((k : Int) + 1) == (i : Int)) = true ∧ wantN n i k = 1) ∨
    ((IntKind.i64.wrap ((k : Int) + 1) == (i : Int)) = false ∧ ((k : Int) == 0) = false ∧ wantN n i k = 0) ∨
    ((IntKind.i64.wrap ((k : Int) + 1) == (i : Int)) = false ∧ ((k : Int) == 0) = true ∧ (IntKind.i64.wrap ((i : Int) + 1) == (n : Int)) = true ∧ wantN n i k = 1) ∨
    ((IntKind.i64.wrap ((k : Int) + 1) == (i : Int)) = false ∧ ((k : Int) == 0) = true ∧ (IntKind.i64.wrap ((i : Int) + 1) == (n : Int)) = false ∧ wantN n i k = 0) := by
  rw [w64 (n := (k : Int) + 1) (by omega) (by omega), w64 (n := (i : Int) + 1) (by omega) (by omega)]
  unfold wantN
  simp only [beq_iff_eq, beq_eq_false_iff_ne, ne_eq]
  by_cases q1 : k + 1 = i
  · exact .inl ⟨by omega, by simp [q1]⟩
  · by_cases q2 : k = 0
    · by_cases q3 : i + 1 = n
      · exact .inr (.inr (.inl ⟨by omega, by omega, by omega, by simp [q2, q3]⟩))
      · exact .inr (.inr (.inr ⟨by omega, by omega, by omega, by simp [q1, q2, q3] <;> omega⟩))
    · exact .inr (.inl ⟨by omega, by omega, by simp [q1, q2]⟩)
theorem want_i {n i k : Nat} (hi : i < n) (hk : k < i) (hn : n ≤ 1048576) :
    (((k : Int) == IntKind.i64.wrap ((i : Int) - 1)) = true ∧ wantN n i k = 1) ∨
    (((k : Int) == IntKind.i64.wrap ((i : Int) - 1)) = false ∧ ((k : Int) == 0) = false ∧ wantN n i k = 0) ∨
    (((k : Int) == IntKind.i64.wrap ((i : Int) - 1)) = false ∧ ((k : Int) == 0) = true ∧ ((i : Int) == IntKind.i64.wrap ((n : Int) - 1)) = true ∧ wantN n i k = 1) ∨
    (((k : Int) == IntKind.i64.wrap ((i : Int) - 1)) = false ∧ ((k : Int) == 0) = true ∧ ((i : Int) == IntKind.i64.wrap ((n : Int) - 1)) = false ∧ wantN n i k = 0) := by
  have e1 : ((k : Int) == IntKind.i64.wrap ((i : Int) - 1)) = (IntKind.i64.wrap ((k : Int) + 1) == (i : Int)) := by
    rw [w64 (n := (k : Int) + 1) (by omega) (by omega), w64 (n := (i : Int) - 1) (by omega) (by omega), Bool.eq_iff_iff]
    simp only [beq_iff_eq]
    omega
  have e2 : ((i : Int) == IntKind.i64.wrap ((n : Int) - 1)) = (IntKind.i64.wrap ((i : Int) + 1) == (n : Int)) := by
    rw [w64 (n := (i : Int) + 1) (by omega) (by omega), w64 (n := (n : Int) - 1) (by omega) (by omega), Bool.eq_iff_iff]
    simp only [beq_iff_eq]
    omega
  rw [e1, e2]
  exact want_s hi hk hn
def sAt (l : List TPoint) (i : Nat) : TSegment := (arnd l).getD i ⟨⟨0, 0⟩, ⟨0, 0⟩⟩
theorem sAt_of {l : List TPoint} {i : Nat} {x : TSegment} (h : (arnd l)[i]? = some x) : sAt l i = x := by simp [sAt, List.getD_eq_getElem?_getD, h]
def rgIn (l : List TPoint) (i n : Nat) : Bool := (List.range n).all fun k => hmI (sAt l i) (sAt l k) == wantN l.length i k
def rgAt (l : List TPoint) (i : Nat) : Bool := isSeg (sAt l i) && rgIn l i i
def rgOk (l : List TPoint) (n : Nat) : Bool := (List.range n).all (rgAt l)
theorem rgIn_succ (l : List TPoint) (i k : Nat) : rgIn l i (k + 1) = (rgIn l i k && (hmI (sAt l i) (sAt l k) == wantN l.length i k)) := by simp [rgIn, List.range_succ]
theorem rgOk_succ (l : List TPoint) (i : Nat) : rgOk l (i + 1) = (rgOk l i && rgAt l i) := by simp [rgOk, List.range_succ]
theorem rgIn_not {l : List TPoint} {i k n : Nat} (h : (hmI (sAt l i) (sAt l k) == wantN l.length i k) = false) (hk : k < n) : rgIn l i n = false := by
  simp only [rgIn, List.all_eq_false, List.mem_range]
  exact ⟨k, hk, by simp [h]⟩
theorem rgOk_not {l : List TPoint} {i n : Nat} (h : rgAt l i = false) (hi : i < n) : rgOk l n = false := by
  simp only [rgOk, List.all_eq_false, List.mem_range]
  exact ⟨i, hi, by simp [h]⟩
def isRing (l : List TPoint) : Bool := inr l.length 3 10 && rgOk l l.length
theorem isRing_len {l : List TPoint} (h : isRing l = true) : 3 ≤ l.length ∧ l.length ≤ 10 := by
  simp only [isRing, inr, Bool.and_eq_true, decide_eq_true_eq] at h
  omega
def ringSegs (l : List TPoint) : List TSegment := if isRing l then arnd l else []
theorem ringSegs_t {l : List TPoint} (h : isRing l = true) : ringSegs l = arnd l := by simp [ringSegs, h]
theorem ringSegs_f {l : List TPoint} (h : isRing l = false) : ringSegs l = [] := by simp [ringSegs, h]
theorem ringSegs_le (l : List TPoint) : (ringSegs l).length ≤ 10 := by
  unfold ringSegs
  split
  · have := isRing_len (by assumption); rw [arnd_len]; omega
  · simp
abbrev twS (n : Int) (s : TSegment) : Int := wsub (wadd n (wmul s.a.x s.b.y)) (wmul s.a.y s.b.x)
abbrev twI (n : Int) (s : TSegment) : Int := wadd n (wsub (wmul s.a.x s.b.y) (wmul s.a.y s.b.x))
theorem tw_eq (n : Int) (s : TSegment) : twI n s = twS n s := by
  unfold twI twS wadd wsub
  generalize wmul s.a.x s.b.y = p
  generalize wmul s.a.y s.b.x = q
  unfold IntKind.wrap
  simp [IntKind.bits, IntKind.signed]
  repeat' split
  all_goals omega
theorem tw_fun : twI = twS := by
  funext n s
  exact tw_eq n s
def twice (l : List TPoint) : Int := (ringSegs l).foldl twS 0
abbrev stepA (n : Int) (x : TFeature) : Int := if x.kind == 3 then wadd n (wmax (twice x.points) (IntKind.i64.wrap (-(twice x.points)))) else n
def totArea (l : List TFeature) : Int := l.foldl stepA 0

set_option maxRecDepth 100000 in
set_option maxHeartbeats 2000000 in
theorem arnd_s (l : List TPoint) (hl : l.length ≤ 1048576) : VCalls Tryz.prog 75 [.ro 2 (l.map TPoint.en)] (fun r M => r = .ro 4 ((arnd l).map TSegment.en) ∧ M = []) := by
  refine VCalls.bodyE Tryz.func75 rfl 28 rfl (fun E hE => ?_)
  simp only [List.reduceReplicate, List.cons_append, List.nil_append]
  have hclo : Clo (.ro 2 (l.map TPoint.en)) := clo_list TPoint.clo_en
  have hclA : Clo (.ro 4 ((arnd l).map TSegment.en)) := clo_list TSegment.clo_en
  have hal := arnd_len l
  repeat' ((first
    | ((with_reducible show AL _ _ _ _ _ _ _); first | refine AL.any ?_ | refine AL.nil ?_)
    | ((with_reducible show DL _ _ _ _ _ _ _); first | refine DL.any ?_ | refine DL.nil ?_)
    | ((with_reducible show DLM _ _ _ _ _ _ _ _ _ _); first | refine DLM.any ?_ | refine DLM.mk ?_ | refine DLM.nil ?_)
    | ((with_reducible show AW _ _ _ _ _ _); first | refine AW.seq ?_ | refine AW.region ?_ | refine AW.skip ?_ | (refine AW.loopD hE (fun i : Nat => [.ro 2 (l.map TPoint.en), .any, .any, .own 0 i, I (i : Int), .any, .any, .any, .any, .any, .any, .any, .any, .any, .any, .any, .any, .any, .any, .any, .any, .any, .any, .any, .any, .any, .any, .any, .any]) (fun i => [some ⟨114, 4, i, false, ((arnd l).take i).map TSegment.en⟩]) (fun i => (arnd l).length - i) (fun i => i ≤ (arnd l).length) 0 (Nat.zero_le _) ?_ (by first | rfl | (simp [fil_zero]; done)) ?_) | refine AW.drM (id := 5) 15 14 ?_ | refine AW.cT ?_ | refine AW.cF ?_ | (refine AW.c2 ?_ ?_ <;> (intro h; try simp only [Bool.not_eq_true', Bool.not_eq_false'] at h)) | refine AW.block ?_ | refine AW.exit ?_ | refine AW.ret ?_)
    | with_reducible refine (if_pos rfl).mpr ?_
    | with_reducible refine (if_neg (by decide)).mpr ?_) <;> (try dsimp only))
  · (repeat' (first | exact Wk.nil | refine Wk.any ?_ | (with_reducible refine Wk.same ?_) | refine Wk.of ?_ ?_)) <;> first | rfl | (simp)
  · intro i hi
    have hclo : Clo (.ro 2 (l.map TPoint.en)) := clo_list TPoint.clo_en
    have hclA : Clo (.ro 4 ((arnd l).map TSegment.en)) := clo_list TSegment.clo_en
    have hal := arnd_len l
    by_cases hlt : i < (arnd l).length
    · skip
      obtain ⟨a, b, ha, hb, hs⟩ := arnd_get (l := l) (i := i) (by omega)
      have ht : decide ((i : Int) < ((l.map TPoint.en).length : Int)) = true := by simp; omega
      have hn := next_ix hlt (by omega)
      have hix := arnd_ix (l := l) (i := i) (by omega) hl
      have hz : ((l.map TPoint.en).length : Int) ≠ 0 := by rw [List.length_map]; omega
      have h0 : 0 ≤ (IntKind.i64.wrap ((i : Int) + 1)).tmod ((l.map TPoint.en).length : Int) := by rw [hix]; omega
      have hga := map_get (f := TPoint.en) ha
      have hgb : (l.map TPoint.en)[((IntKind.i64.wrap ((i : Int) + 1)).tmod ((l.map TPoint.en).length : Int)).toNat]? = some b.en := by rw [hix]; exact map_get hb
      have hm := map_take_succ (f := TSegment.en) hs
      repeat' ((first
        | ((with_reducible show AL _ _ _ _ _ _ _); first | refine AL.any ?_ | refine AL.nil ?_)
        | ((with_reducible show DL _ _ _ _ _ _ _); first | refine DL.any ?_ | refine DL.nil ?_)
        | ((with_reducible show DLM _ _ _ _ _ _ _ _ _ _); first | refine DLM.any ?_ | refine DLM.mk ?_ | refine DLM.nil ?_)
        | ((with_reducible show AW _ _ _ _ _ _); first | refine AW.seq ?_ | refine AW.region ?_ | refine AW.skip ?_ | refine AW.drM (id := 5) 15 14 ?_ | refine AW.cT ?_ | refine AW.cF ?_ | (refine AW.c2 ?_ ?_ <;> (intro h; try simp only [Bool.not_eq_true', Bool.not_eq_false'] at h)) | refine AW.block ?_ | refine AW.exit ?_ | refine AW.ret ?_)
        | with_reducible refine (if_pos rfl).mpr ?_
        | with_reducible refine (if_neg (by decide)).mpr ?_) <;> (try dsimp only))
      all_goals first
        | (refine ⟨i + 1, _, hlt, by omega, ?_, by rw [hm] <;> rfl, ?_, ?_⟩; (focus ((repeat' (first | exact Wk.nil | refine Wk.any ?_ | (with_reducible refine Wk.same ?_) | refine Wk.of ?_ ?_)) <;> (simp_all))); (focus ((repeat' (first | exact Fits.nil _ | refine Fits.cons ?_ ?_ | exact Fits.any _ | exact Fits.c _ _ | exact Fits.own (by rfl) | exact Fits.ref (by rfl) | exact Fits.clo (by assumption) | exact Fits.clo (clo_of (by rfl)) | exact Fits.clo (clo_fn _))))); (focus (exact fits_row (clo_rows TSegment.clo_en))))
    · have e : i = (arnd l).length := by omega
      have ht : decide ((i : Int) < ((l.map TPoint.en).length : Int)) = false := by simp; omega
      subst e
      repeat' ((first
        | ((with_reducible show AL _ _ _ _ _ _ _); first | refine AL.any ?_ | refine AL.nil ?_)
        | ((with_reducible show DL _ _ _ _ _ _ _); first | refine DL.any ?_ | refine DL.nil ?_)
        | ((with_reducible show DLM _ _ _ _ _ _ _ _ _ _); first | refine DLM.any ?_ | refine DLM.mk ?_ | refine DLM.nil ?_)
        | ((with_reducible show AW _ _ _ _ _ _); first | refine AW.seq ?_ | refine AW.region ?_ | refine AW.skip ?_ | (refine AW.freezeRet (t := 2) (id := 0) rfl rfl rfl rfl (clo_rows TSegment.clo_en) ?_; (try simp only [List.take_length]); try dsimp only [dput, List.set, cond_true, cond_false, Nat.zero_add, Nat.add_zero, Nat.reduceAdd, splice, List.take, List.drop, List.length, List.nil_append, List.cons_append, List.append, TPoint.en, TSegment.en, TBox.en, TFeature.en, TMeet.en, TPlace.en, TCover.en, TLabel.en, TPiece.en, TLevel.en, TChart.en, TReason.en, TEdit.en, TEntry.en, TEdition.en, TListing.en, TAtlas.en, TEvent.en, TWindow.en]) | refine AW.drM (id := 5) 15 14 ?_ | refine AW.cT ?_ | refine AW.cF ?_ | (refine AW.c2 ?_ ?_ <;> (intro h; try simp only [Bool.not_eq_true', Bool.not_eq_false'] at h)) | refine AW.block ?_ | refine AW.exit ?_ | refine AW.ret ?_)
        | with_reducible refine (if_pos rfl).mpr ?_
        | with_reducible refine (if_neg (by decide)).mpr ?_) <;> (try dsimp only))
      all_goals exact Fin.one rfl (RV.tmp (by rfl)) (clo_list TSegment.clo_en) ⟨rfl, rfl⟩

set_option maxRecDepth 100000 in
set_option maxHeartbeats 2000000 in
theorem arnd_i (l : List TPoint) (hl : l.length ≤ 1048576) : VCalls Tryz.prog 83 [.ro 2 (l.map TPoint.en)] (fun r M => r = .ro 4 ((arnd l).map TSegment.en) ∧ M = []) := by
  refine VCalls.bodyE Tryz.func83 rfl 28 rfl (fun E hE => ?_)
  simp only [List.reduceReplicate, List.cons_append, List.nil_append]
  have hclo : Clo (.ro 2 (l.map TPoint.en)) := clo_list TPoint.clo_en
  have hclA : Clo (.ro 4 ((arnd l).map TSegment.en)) := clo_list TSegment.clo_en
  have hal := arnd_len l
  repeat' ((first
    | ((with_reducible show AL _ _ _ _ _ _ _); first | refine AL.any ?_ | refine AL.nil ?_)
    | ((with_reducible show DL _ _ _ _ _ _ _); first | refine DL.any ?_ | refine DL.nil ?_)
    | ((with_reducible show DLM _ _ _ _ _ _ _ _ _ _); first | refine DLM.any ?_ | refine DLM.mk ?_ | refine DLM.nil ?_)
    | ((with_reducible show AW _ _ _ _ _ _); first | refine AW.seq ?_ | refine AW.region ?_ | refine AW.skip ?_ | (refine AW.loopD hE (fun i : Nat => [.ro 2 (l.map TPoint.en), .any, .any, .own 0 i, .any, .any, .any, .ro 2 (l.map TPoint.en), I (l.map TPoint.en).length, I (i : Int), .any, .any, .any, .any, .any, .any, .any, .any, .any, .any, .any, .any, .any, .any, .any, .any, .any, .any, .any]) (fun i => [some ⟨114, 4, i, false, ((arnd l).take i).map TSegment.en⟩]) (fun i => (arnd l).length - i) (fun i => i ≤ (arnd l).length) 0 (Nat.zero_le _) ?_ (by first | rfl | (simp [fil_zero]; done)) ?_) | refine AW.drM (id := 5) 12 11 ?_ | refine AW.cT ?_ | refine AW.cF ?_ | (refine AW.c2 ?_ ?_ <;> (intro h; try simp only [Bool.not_eq_true', Bool.not_eq_false'] at h)) | refine AW.block ?_ | refine AW.exit ?_ | refine AW.ret ?_)
    | with_reducible refine (if_pos rfl).mpr ?_
    | with_reducible refine (if_neg (by decide)).mpr ?_) <;> (try dsimp only))
  · (repeat' (first | exact Wk.nil | refine Wk.any ?_ | (with_reducible refine Wk.same ?_) | refine Wk.of ?_ ?_)) <;> first | rfl | (simp)
  · intro i hi
    have hclo : Clo (.ro 2 (l.map TPoint.en)) := clo_list TPoint.clo_en
    have hclA : Clo (.ro 4 ((arnd l).map TSegment.en)) := clo_list TSegment.clo_en
    have hal := arnd_len l
    by_cases hlt : i < (arnd l).length
    · skip
      obtain ⟨a, b, ha, hb, hs⟩ := arnd_get (l := l) (i := i) (by omega)
      have ht : decide ((i : Int) < ((l.map TPoint.en).length : Int)) = true := by simp; omega
      have hn := next_ix hlt (by omega)
      have hix := arnd_ix (l := l) (i := i) (by omega) hl
      have hz : ((l.map TPoint.en).length : Int) ≠ 0 := by rw [List.length_map]; omega
      have h0 : 0 ≤ (IntKind.i64.wrap ((i : Int) + 1)).tmod ((l.map TPoint.en).length : Int) := by rw [hix]; omega
      have hga := map_get (f := TPoint.en) ha
      have hgb : (l.map TPoint.en)[((IntKind.i64.wrap ((i : Int) + 1)).tmod ((l.map TPoint.en).length : Int)).toNat]? = some b.en := by rw [hix]; exact map_get hb
      have hm := map_take_succ (f := TSegment.en) hs
      repeat' ((first
        | ((with_reducible show AL _ _ _ _ _ _ _); first | refine AL.any ?_ | refine AL.nil ?_)
        | ((with_reducible show DL _ _ _ _ _ _ _); first | refine DL.any ?_ | refine DL.nil ?_)
        | ((with_reducible show DLM _ _ _ _ _ _ _ _ _ _); first | refine DLM.any ?_ | refine DLM.mk ?_ | refine DLM.nil ?_)
        | ((with_reducible show AW _ _ _ _ _ _); first | refine AW.seq ?_ | refine AW.region ?_ | refine AW.skip ?_ | refine AW.drM (id := 5) 12 11 ?_ | refine AW.cT ?_ | refine AW.cF ?_ | (refine AW.c2 ?_ ?_ <;> (intro h; try simp only [Bool.not_eq_true', Bool.not_eq_false'] at h)) | refine AW.block ?_ | refine AW.exit ?_ | refine AW.ret ?_)
        | with_reducible refine (if_pos rfl).mpr ?_
        | with_reducible refine (if_neg (by decide)).mpr ?_) <;> (try dsimp only))
      all_goals first
        | (refine ⟨i + 1, _, hlt, by omega, ?_, by rw [hm] <;> rfl, ?_, ?_⟩; (focus ((repeat' (first | exact Wk.nil | refine Wk.any ?_ | (with_reducible refine Wk.same ?_) | refine Wk.of ?_ ?_)) <;> (simp_all))); (focus ((repeat' (first | exact Fits.nil _ | refine Fits.cons ?_ ?_ | exact Fits.any _ | exact Fits.c _ _ | exact Fits.own (by rfl) | exact Fits.ref (by rfl) | exact Fits.clo (by assumption) | exact Fits.clo (clo_of (by rfl)) | exact Fits.clo (clo_fn _))))); (focus (exact fits_row (clo_rows TSegment.clo_en))))
    · have e : i = (arnd l).length := by omega
      have ht : decide ((i : Int) < ((l.map TPoint.en).length : Int)) = false := by simp; omega
      subst e
      repeat' ((first
        | ((with_reducible show AL _ _ _ _ _ _ _); first | refine AL.any ?_ | refine AL.nil ?_)
        | ((with_reducible show DL _ _ _ _ _ _ _); first | refine DL.any ?_ | refine DL.nil ?_)
        | ((with_reducible show DLM _ _ _ _ _ _ _ _ _ _); first | refine DLM.any ?_ | refine DLM.mk ?_ | refine DLM.nil ?_)
        | ((with_reducible show AW _ _ _ _ _ _); first | refine AW.seq ?_ | refine AW.region ?_ | refine AW.skip ?_ | (refine AW.freezeRet (t := 2) (id := 0) rfl rfl rfl rfl (clo_rows TSegment.clo_en) ?_; (try simp only [List.take_length]); try dsimp only [dput, List.set, cond_true, cond_false, Nat.zero_add, Nat.add_zero, Nat.reduceAdd, splice, List.take, List.drop, List.length, List.nil_append, List.cons_append, List.append, TPoint.en, TSegment.en, TBox.en, TFeature.en, TMeet.en, TPlace.en, TCover.en, TLabel.en, TPiece.en, TLevel.en, TChart.en, TReason.en, TEdit.en, TEntry.en, TEdition.en, TListing.en, TAtlas.en, TEvent.en, TWindow.en]) | refine AW.drM (id := 5) 12 11 ?_ | refine AW.cT ?_ | refine AW.cF ?_ | (refine AW.c2 ?_ ?_ <;> (intro h; try simp only [Bool.not_eq_true', Bool.not_eq_false'] at h)) | refine AW.block ?_ | refine AW.exit ?_ | refine AW.ret ?_)
        | with_reducible refine (if_pos rfl).mpr ?_
        | with_reducible refine (if_neg (by decide)).mpr ?_) <;> (try dsimp only))
      all_goals exact Fin.one rfl (RV.tmp (by rfl)) (clo_list TSegment.clo_en) ⟨rfl, rfl⟩

end Go.Proofs.YtolmophnimngjaaGreat.Abs
