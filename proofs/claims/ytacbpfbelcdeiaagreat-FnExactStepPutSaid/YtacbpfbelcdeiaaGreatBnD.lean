/- Part D of the walk over abstract states and of the functions' walks. -/
import Derived.Test.YtacbpfbelcdeiaaGreatWkStep
import Derived.Test.YtacbpfbelcdeiaaGreatBnC
/- The walks of hashes and of FindFeature. -/
namespace Go.Proofs.YtacbpfbelcdeiaaGreat.Abs
open Go.Proofs Go.RowKit
set_option linter.unusedVariables false
set_option linter.unusedSimpArgs false
set_option maxRecDepth 100000
set_option maxHeartbeats 2000000
attribute [local irreducible] OpA AL AW DL DLM DLR DLS QOp POp VCalls VCallsI
/-! ### Hashes -/
def modW (v : Int) : Int := if v.tmod 2147483647 < 0 then wadd (v.tmod 2147483647) 2147483647 else v.tmod 2147483647
theorem tmod_bd (v : Int) : -2147483647 < v.tmod 2147483647 ∧ v.tmod 2147483647 < 2147483647 := by
  have h := Int.tmod_lt_of_pos v (show (0 : Int) < 2147483647 by omega)
  have h2 := Int.lt_tmod_of_pos v (show (0 : Int) < 2147483647 by omega)
  omega
theorem tmod_small {v : Int} (h0 : 0 ≤ v) (h1 : v < 2147483647) : v.tmod 2147483647 = v := Int.tmod_eq_of_lt h0 h1
theorem modS_eq (v : Int) : (wadd (v.tmod 2147483647) 2147483647).tmod 2147483647 = modW v := by
  have hb := tmod_bd v
  unfold modW
  split
  · rename_i h
    unfold wadd
    rw [w64 (by omega) (by omega), tmod_small (by omega) (by omega)]
  · rename_i h
    unfold wadd
    rw [w64 (by omega) (by omega)]
    have e : (v.tmod 2147483647 + 2147483647).tmod 2147483647 = v.tmod 2147483647 := by
      rw [Int.tmod_eq_emod_of_nonneg (by omega), Int.add_emod_right, Int.emod_eq_of_lt (by omega) (by omega)]
    exact e
def hstep (d v : Int) : Int := (wadd (wadd (wmul d 1000003) (modW v)) 13).tmod 2147483647
def hshTo (l : List Int) (i : Nat) : Int := (l.take i).foldl hstep 11
def hsh (l : List Int) : Int := l.foldl hstep 11
theorem hshTo_succ {l : List Int} {i : Nat} {x : Int} (h : l[i]? = some x) : hshTo l (i + 1) = hstep (hshTo l i) x := by simp [hshTo, take_succ_of h]
theorem hshTo_all (l : List Int) : hshTo l l.length = hsh l := by simp [hshTo, hsh]
abbrev enI (n : Int) : List AV := [I n]
theorem clo_enI (n : Int) : ∀ x ∈ enI n, Clo x := clo_cons (clo_c _) clo_nil
/-! ### Where a feature lies -/
def fndTo (l : List TFeature) (k : Int) (i : Nat) : Bool := (l.take i).all fun f => !(f.id == k)
theorem fndTo_succ {l : List TFeature} {k : Int} {i : Nat} {x : TFeature} (h : l[i]? = some x) : fndTo l k (i + 1) = (fndTo l k i && !(x.id == k)) := by simp [fndTo, take_succ_of h]
def fnd (l : List TFeature) (k : Int) : Int := match l.findIdx? fun f => f.id == k with
  | some i => (i : Int)
  | none => -1
theorem fnd_some {l : List TFeature} {k : Int} {i : Nat} {x : TFeature} (h : l[i]? = some x) (hx : (x.id == k) = true) (ht : fndTo l k i = true) : fnd l k = (i : Int) := by
  have hi := (List.getElem?_eq_some_iff.1 h).1
  have e : l.findIdx? (fun f => f.id == k) = some i := by
    rw [List.findIdx?_eq_some_iff_getElem]
    refine ⟨hi, ?_, fun j hj => ?_⟩
    · rw [(List.getElem?_eq_some_iff.1 h).2]; exact hx
    · simp only [fndTo, List.all_eq_true] at ht
      have := ht l[j] (by rw [List.mem_take_iff_getElem]; exact ⟨j, by omega, rfl⟩)
      simpa using this
  rw [fnd, e]
theorem fnd_none {l : List TFeature} {k : Int} (ht : fndTo l k l.length = true) : fnd l k = -1 := by
  have e : l.findIdx? (fun f => f.id == k) = none := by
    rw [List.findIdx?_eq_none_iff]
    rw [fndTo, List.take_length, List.all_eq_true] at ht
    intro x hx
    have := ht x hx
    simpa using this
  rw [fnd, e]
theorem src_inc {l : List TFeature} (hS : isSource l = true) : ∀ (i j : Nat) (x y : TFeature), i < j → l[i]? = some x → l[j]? = some y → x.id < y.id := by
  have step : ∀ (i : Nat) (x y : TFeature), l[i]? = some x → l[i + 1]? = some y → x.id < y.id := fun i x y hx hy => by
    simp only [isSource, Bool.and_eq_true, srcOk, List.all_eq_true, List.mem_range] at hS
    have h := hS.1 (i + 1) (List.getElem?_eq_some_iff.1 hy).1
    simp only [srcAt, hy, Bool.and_eq_true, Bool.or_eq_true, decide_eq_true_eq] at h
    rcases h.2 with h | h
    · simp at h
    · simpa [prevF, List.getD_eq_getElem?_getD, hx] using h
  intro i j
  induction j with
  | zero => intro x y h; omega
  | succ j ih =>
    intro x y h hx hy
    rcases Nat.lt_or_ge i j with hij | hij
    · have hj : j < l.length := by have := (List.getElem?_eq_some_iff.1 hy).1; omega
      have h1 := ih x l[j] hij hx (List.getElem?_eq_getElem hj)
      have h2 := step j l[j] y (List.getElem?_eq_getElem hj) hy
      omega
    · have e : i = j := by omega
      subst e
      exact step i x y hx hy
theorem fnd_src {l : List TFeature} {i : Nat} {x : TFeature} (hS : isSource l = true) (hx : l[i]? = some x) : fnd l x.id = (i : Int) := by
  refine fnd_some hx (by simp) ?_
  rw [fndTo, List.all_eq_true]
  intro y hy
  rw [List.mem_take_iff_getElem] at hy
  obtain ⟨j, hj, rfl⟩ := hy
  have := src_inc hS j i l[j] x (by omega) (List.getElem?_eq_getElem (by omega)) hx
  simp
  omega
/-! ### Digests of pieces -/
theorem byte_data {s : ByteArray} {i : Nat} {b : UInt8} (h : s[i]? = some b) : s.data.toList[i]? = some b := by
  by_cases hi : i < s.size
  · have e : s[i]? = some s[i] := getElem?_pos s i hi
    rw [e] at h
    have hi2 : i < s.data.size := hi
    rw [Array.getElem?_toList, Array.getElem?_eq_getElem hi2]
    exact h
  · have e : s[i]? = none := getElem?_neg s i hi
    rw [e] at h
    cases h
def nameI (s : ByteArray) (i : Nat) : List Int := (s.data.toList.take i).map fun b => ((b.toNat : Nat) : Int)
theorem nameI_succ {s : ByteArray} {i : Nat} {b : UInt8} (h : s[i]? = some b) : nameI s (i + 1) = nameI s i ++ [((b.toNat : Nat) : Int)] := by
  rw [nameI, take_succ_of (byte_data h), List.map_append]
  rfl
theorem nameI_len (s : ByteArray) (i : Nat) : (nameI s i).length ≤ i := by rw [nameI, List.length_map, List.length_take]; omega
def pvals (f : TFeature) (i : Nat) : List Int := [f.id, f.kind, f.rank, (f.name.size : Int)] ++ nameI f.name i
theorem pvals_succ {f : TFeature} {i : Nat} {b : UInt8} (h : f.name[i]? = some b) : (pvals f (i + 1)).map enI = (pvals f i).map enI ++ [[I ((b.toNat : Nat) : Int)]] := by
  rw [pvals, nameI_succ h, ← List.append_assoc, List.map_append]
  rfl
theorem pvals_len (f : TFeature) (i : Nat) : (pvals f i).length ≤ 4 + i := by
  have := nameI_len f.name i
  rw [pvals, List.length_append]
  simp
  omega
def pdOf (f : TFeature) (part : Int) : List Int := pvals f f.name.size ++ [part]
def pd (f : TFeature) (part : Int) : Int :=
  if isFeat f = false then 0 else
  if (f.kind == 1) = true then (if (part == 0) = true then hsh (pdOf f part ++ [(pt0 f).x, (pt0 f).y]) else 0) else
  if inr part 0 ((partsOf f).length - 1 : Int) = true then hsh (pdOf f part ++ [(ptAt f part.toNat).a.x, (ptAt f part.toNat).a.y, (ptAt f part.toNat).b.x, (ptAt f part.toNat).b.y]) else 0
def featD : TFeature := ⟨0, 0, 0, ⟨#[]⟩, []⟩
def pcFeat (l : List TFeature) (p : TPiece) : TFeature := l.getD (fnd l p.id).toNat featD
def digTo (l : List TFeature) (ps : List TPiece) (i : Nat) : List Int := (ps.take i).map fun p => pd (pcFeat l p) p.part
def dig (l : List TFeature) (ps : List TPiece) : List Int := ps.map fun p => pd (pcFeat l p) p.part
theorem digTo_succ {l : List TFeature} {ps : List TPiece} {i : Nat} {x : TPiece} (h : ps[i]? = some x) : digTo l ps (i + 1) = digTo l ps i ++ [pd (pcFeat l x) x.part] := by simp [digTo, take_succ_of h]
theorem digTo_all (l : List TFeature) (ps : List TPiece) : digTo l ps ps.length = dig l ps := by simp [digTo, dig]
theorem digTo_len (l : List TFeature) (ps : List TPiece) (i : Nat) : (digTo l ps i).length ≤ i := by rw [digTo, List.length_map, List.length_take]; omega
/-- Pieces of features that there are. -/
def pcIs (l : List TFeature) (ps : List TPiece) : Prop := ∀ p ∈ ps, ∃ (i : Nat) (f : TFeature), l[i]? = some f ∧ fnd l p.id = (i : Int) ∧ pcFeat l p = f
/-! ### All pieces -/
def pcaBase (f : TFeature) : List TPiece := if (f.kind == 1) = true then [⟨f.id, 0⟩] else []
def pcaTo (f : TFeature) (i : Nat) : List TPiece := pcaBase f ++ (List.range i).map fun k => ⟨f.id, (k : Int)⟩
def pca (f : TFeature) : List TPiece := pcaTo f (partsOf f).length
theorem pcaTo_zero (f : TFeature) : pcaTo f 0 = pcaBase f := by simp [pcaTo]
theorem pcaTo_succ (f : TFeature) (i : Nat) : pcaTo f (i + 1) = pcaTo f i ++ [⟨f.id, (i : Int)⟩] := by
  unfold pcaTo
  rw [List.range_succ, List.map_append, ← List.append_assoc]
  rfl
theorem pcaTo_len (f : TFeature) (i : Nat) : (pcaTo f i).length ≤ 1 + i := by
  unfold pcaTo pcaBase
  rw [List.length_append, List.length_map, List.length_range]
  split <;> simp
theorem pca_len (f : TFeature) : (pca f).length ≤ 11 := by
  have h1 := pcaTo_len f (partsOf f).length
  have h2 := partsOf_le f
  unfold pca
  omega
def nPt (f : TFeature) : Nat := if (f.kind == 1) = true then 1 else (partsOf f).length
theorem nPt_le (f : TFeature) : nPt f ≤ 10 := by
  have h2 := partsOf_le f
  unfold nPt
  split <;> omega
def fpcTo (f : TFeature) (k : Nat) : List TPiece := (List.range k).map fun (j : Nat) => ⟨f.id, (j : Int)⟩
theorem fpcTo_succ (f : TFeature) (k : Nat) : fpcTo f (k + 1) = fpcTo f k ++ [⟨f.id, (k : Int)⟩] := by
  rw [fpcTo, List.range_succ, List.map_append]
  rfl
theorem pca_eq (f : TFeature) : fpcTo f (nPt f) = pca f := by
  unfold pca pcaTo pcaBase nPt fpcTo
  split
  · rename_i hk
    rw [parts_k1 hk]
    rfl
  · simp
theorem pca_id {f : TFeature} {p : TPiece} (h : p ∈ pca f) : p.id = f.id := by
  rw [← pca_eq, fpcTo, List.mem_map] at h
  obtain ⟨j, _, rfl⟩ := h
  rfl
def allTo (l : List TFeature) (i : Nat) : List TPiece := (l.take i).flatMap pca
theorem allTo_succ {l : List TFeature} {i : Nat} {x : TFeature} (h : l[i]? = some x) : allTo l (i + 1) = allTo l i ++ pca x := by
  unfold allTo
  rw [take_succ_of h, List.flatMap_append]
  simp
theorem allTo_len (l : List TFeature) (i : Nat) (hi : i ≤ l.length) : (allTo l i).length ≤ 11 * i := by
  induction i with
  | zero => simp [allTo]
  | succ i ih =>
    have := ih (by omega)
    have hx : l[i]? = some l[i] := List.getElem?_eq_getElem (by omega)
    have h2 := pca_len l[i]
    rw [allTo_succ hx, List.length_append]
    omega
def allPc (l : List TFeature) : List TPiece := if isSource l = true then allTo l l.length else []
theorem allPc_len (l : List TFeature) : (allPc l).length ≤ 176 := by
  unfold allPc
  split
  · rename_i hS
    have h1 := allTo_len l l.length (Nat.le_refl _)
    have h2 := src_len hS
    omega
  · simp
theorem allPc_is (l : List TFeature) : pcIs l (allPc l) := by
  intro p hp
  unfold allPc at hp
  split at hp
  · rename_i hS
    rw [allTo, List.take_length, List.mem_flatMap] at hp
    obtain ⟨f, hf, hp⟩ := hp
    obtain ⟨i, hi, rfl⟩ := List.mem_iff_getElem.1 hf
    have hx : l[i]? = some l[i] := List.getElem?_eq_getElem hi
    have e := fnd_src hS hx
    have hid := pca_id hp
    refine ⟨i, l[i], hx, by rw [hid]; exact e, ?_⟩
    rw [pcFeat, hid, e, Int.toNat_natCast, List.getD_eq_getElem?_getD, hx]
    rfl
  · simp at hp
def sealOf (b t : Int) (l : List TFeature) : Int := hsh ([b, t] ++ dig l (allPc l))
/-! ### What a piece's digest is -/
theorem feat_name {f : TFeature} (hf : isFeat f = true) : f.name.size ≤ 8 := by
  simp only [isFeat, Bool.and_eq_true, Bool.or_eq_true] at hf
  rcases hf.1.2 with h | h
  · have h1 : f.name.toList = [] := by simpa [noName] using h
    rw [ByteArray.toList_eq] at h1
    have h2 : f.name.data.toList.length = f.name.size := by rw [Array.length_toList]; rfl
    rw [h1] at h2
    simp at h2
    omega
  · simp only [isName, inr, Bool.and_eq_true, decide_eq_true_eq] at h
    omega
theorem pdOf_len {f : TFeature} {part : Int} (hf : isFeat f = true) : (pdOf f part).length ≤ 13 := by
  have h1 := feat_name hf
  have h2 := pvals_len f f.name.size
  rw [pdOf, List.length_append]
  simp
  omega
theorem pd_f {f : TFeature} (part : Int) (hf : isFeat f = false) : pd f part = 0 := by rw [pd, if_pos hf]
theorem pd_cases (f : TFeature) (part : Int) (hf : isFeat f = true) :
    ((f.kind == 1) = true ∧ (part == 0) = true ∧ pd f part = hsh (pdOf f part ++ [(pt0 f).x, (pt0 f).y])) ∨
    ((f.kind == 1) = true ∧ (part == 0) = false ∧ inr part 0 (IntKind.i64.wrap ((((partsOf f).map TSegment.en).length : Int) - 1)) = false ∧ pd f part = 0) ∨
    ((f.kind == 1) = false ∧ inr part 0 (IntKind.i64.wrap ((((partsOf f).map TSegment.en).length : Int) - 1)) = true ∧ decide (part < 0) = false ∧ decide (part ≥ (((partsOf f).map TSegment.en).length : Int)) = false ∧ 0 ≤ part ∧ ((partsOf f).map TSegment.en)[part.toNat]? = some (ptAt f part.toNat).en ∧
      pd f part = hsh (pdOf f part ++ [(ptAt f part.toNat).a.x, (ptAt f part.toNat).a.y, (ptAt f part.toNat).b.x, (ptAt f part.toNat).b.y])) ∨
    ((f.kind == 1) = false ∧ inr part 0 (IntKind.i64.wrap ((((partsOf f).map TSegment.en).length : Int) - 1)) = false ∧ (decide (part < 0) || decide (part ≥ (((partsOf f).map TSegment.en).length : Int))) = true ∧ pd f part = 0) := by
  have hpl := partsOf_le f
  have hf' : ¬ isFeat f = false := by rw [hf]; simp
  rw [List.length_map, w64 (n := ((partsOf f).length : Int) - 1) (by omega) (by omega)]
  cases hk : (f.kind == 1)
  · right; right
    cases hi : inr part 0 ((partsOf f).length - 1 : Int)
    · refine .inr ⟨rfl, rfl, ?_, ?_⟩
      · have : ¬ (0 ≤ part ∧ part ≤ (partsOf f).length - 1) := fun h => by
          rw [show inr part 0 ((partsOf f).length - 1 : Int) = true by simp only [inr, Bool.and_eq_true, decide_eq_true_eq]; exact h] at hi
          cases hi
        simp only [Bool.or_eq_true, decide_eq_true_eq]
        omega
      · rw [pd, if_neg hf', if_neg (by rw [hk]; simp), if_neg (by rw [hi]; simp)]
    · have hb : 0 ≤ part ∧ part ≤ (partsOf f).length - 1 := by simpa only [inr, Bool.and_eq_true, decide_eq_true_eq] using hi
      refine .inl ⟨rfl, rfl, by simp; omega, by simp; omega, hb.1, ?_, ?_⟩
      · rw [List.getElem?_map, ptAt, List.getD_eq_getElem?_getD, List.getElem?_eq_getElem (show part.toNat < (partsOf f).length by omega)]
        rfl
      · rw [pd, if_neg hf', if_neg (by rw [hk]; simp), if_pos hi]
  · cases hz : (part == 0)
    · refine .inr (.inl ⟨rfl, rfl, ?_, ?_⟩)
      · rw [parts_k1 hk]
        simp only [inr, List.length_nil, Bool.and_eq_false_iff, decide_eq_false_iff_not]
        omega
      · rw [pd, if_neg hf', if_pos hk, if_neg (by rw [hz]; simp)]
    · exact .inl ⟨rfl, rfl, by rw [pd, if_neg hf', if_pos hk, if_pos hz]⟩
theorem pd_rows (f : TFeature) (part : Int) (l : List Int) : ((pvals f f.name.size).map enI ++ [[I part]]) ++ l.map enI = (pdOf f part ++ l).map enI := by
  rw [pdOf, List.map_append, List.map_append]
  rfl
theorem pd_rows_len {f : TFeature} {part : Int} (l : List Int) (hf : isFeat f = true) (hl : l.length ≤ 4) : (pdOf f part ++ l).length ≤ 1048576 := by
  have := pdOf_len (part := part) hf
  rw [List.length_append]
  omega
theorem dig_take (l : List TFeature) (ps : List TPiece) (i : Nat) (b t : Int) : ([b, t] ++ digTo l ps i).length ≤ 2 + i := by
  have := digTo_len l ps i
  rw [List.length_append]
  simp
  omega
def sealTo (b t : Int) (l : List TFeature) (ps : List TPiece) (i : Nat) : List Int := [b, t] ++ digTo l ps i
theorem sealTo_succ {b t : Int} {l : List TFeature} {ps : List TPiece} {i : Nat} {x : TPiece} (h : ps[i]? = some x) : (sealTo b t l ps (i + 1)).map enI = (sealTo b t l ps i).map enI ++ [[I (pd (pcFeat l x) x.part)]] := by
  rw [sealTo, sealTo, digTo_succ h, ← List.append_assoc, List.map_append]
  rfl
theorem digTo_map {l : List TFeature} {ps : List TPiece} {i : Nat} {x : TPiece} (h : ps[i]? = some x) : (digTo l ps (i + 1)).map enI = (digTo l ps i).map enI ++ [[I (pd (pcFeat l x) x.part)]] := by
  rw [digTo_succ h, List.map_append]
  rfl
theorem seal_all (b t : Int) (l : List TFeature) : sealTo b t l (allPc l) (allPc l).length = [b, t] ++ dig l (allPc l) := by rw [sealTo, digTo_all]
theorem pc_at {l : List TFeature} {ps : List TPiece} (h : pcIs l ps) {i : Nat} {x : TPiece} (hx : ps[i]? = some x) : ∃ y : TFeature, y ∈ l ∧ pcFeat l x = y ∧ 0 ≤ fnd l x.id ∧ (l.map TFeature.en)[(fnd l x.id).toNat]? = some y.en := by
  obtain ⟨j, y, hy, hf, he⟩ := h x (List.mem_of_getElem? hx)
  exact ⟨y, List.mem_of_getElem? hy, he, by omega, by rw [hf]; exact map_get hy⟩
theorem pca_cases_f {f : TFeature} (hk : (f.kind == 1) = false) : pcaTo f 0 = [] := by rw [pcaTo_zero, pcaBase, if_neg (by rw [hk]; simp)]
theorem pca_cases_t {f : TFeature} (hk : (f.kind == 1) = true) : pcaTo f 0 = [⟨f.id, 0⟩] := by rw [pcaTo_zero, pcaBase, if_pos hk]
theorem pcaTo_map (f : TFeature) (i : Nat) : (pcaTo f (i + 1)).map TPiece.en = (pcaTo f i).map TPiece.en ++ [[I f.id, I (i : Int)]] ∧ (pcaTo f (i + 1)).length = (pcaTo f i).length + 1 := by
  rw [pcaTo_succ, List.map_append, List.length_append]
  exact ⟨rfl, rfl⟩
theorem allTo_map {l : List TFeature} {i : Nat} {x : TFeature} (h : l[i]? = some x) : (allTo l (i + 1)).map TPiece.en = (allTo l i).map TPiece.en ++ (pca x).map TPiece.en := by rw [allTo_succ h, List.map_append]
theorem fpcTo_map (f : TFeature) (k : Nat) : (fpcTo f (k + 1)).map TPiece.en = (fpcTo f k).map TPiece.en ++ [[I f.id, I (k : Int)]] := by
  rw [fpcTo_succ, List.map_append]
  rfl
theorem fpcTo_len (f : TFeature) (k : Nat) : (fpcTo f k).length = k := by rw [fpcTo, List.length_map, List.length_range]
theorem all_next {l : List TFeature} {i : Nat} {x : TFeature} (h : l[i]? = some x) : (allTo l i).map TPiece.en ++ (fpcTo x (nPt x)).map TPiece.en = (allTo l (i + 1)).map TPiece.en ∧ (allTo l i).length + nPt x = (allTo l (i + 1)).length := by
  rw [allTo_map h, allTo_succ h, List.length_append, ← pca_eq, fpcTo_len]
  exact ⟨rfl, rfl⟩
theorem allPc_f {l : List TFeature} (h : isSource l = false) : allPc l = [] := by rw [allPc, if_neg (by rw [h]; simp)]
theorem allPc_t {l : List TFeature} (h : isSource l = true) : allPc l = allTo l l.length := by rw [allPc, if_pos h]
theorem allPc_n (l : List TFeature) : allTo l (nSrc l) = allPc l := by
  unfold nSrc allPc
  split
  · rfl
  · simp [allTo]
theorem seal_rows (b t : Int) (l : List Int) : [[I b], [I t]] ++ l.map enI = ([b, t] ++ l).map enI := rfl
theorem dig_len (l : List TFeature) (ps : List TPiece) : (dig l ps).length = ps.length := by rw [dig, List.length_map]
theorem seal_len (b t : Int) (l : List TFeature) : ([b, t] ++ dig l (allPc l)).length ≤ 1048576 := by
  have h1 := allPc_len l
  have h2 := dig_len l (allPc l)
  rw [List.length_append]
  simp
  omega
theorem sealTo_lt (b t : Int) (l : List TFeature) (i : Nat) : (sealTo b t l (allPc l) i).length ≤ 2 + i := dig_take l (allPc l) i b t
theorem sealTo_len (b t : Int) (l : List TFeature) : (sealTo b t l (allPc l) (allPc l).length).length ≤ 1048576 := by
  have h1 := allPc_len l
  have h2 := sealTo_lt b t l (allPc l).length
  omega

theorem mod_s (v : Int) : VCalls Tryz.prog 161 [I v, I 2147483647] (fun r M => r = I (modW v) ∧ M = []) := by
  refine VCalls.body Tryz.func161 rfl 13 rfl (fun E => ?_)
  simp only [List.reduceReplicate, List.cons_append, List.nil_append]
  repeat' ((first
    | ((with_reducible show AL ..); first | refine AL.any ?_ | refine AL.any (h := POp.k Tryz.func77 (hc := inr_s _ _ _)) ?_ | refine AL.nil ?_)
    | ((with_reducible show AW ..); first | refine AW.seq ?_ | refine AW.region ?_ | refine AW.skip ?_ | refine AW.cT ?_ | refine AW.cF ?_ | (refine AW.c2 ?_ ?_ <;> (intro h; try simp only [bT, bF] at h)) | refine AW.block ?_ | refine AW.exit ?_ | refine AW.ret ?_)) <;> (try dsimp only))
  all_goals exact Fin.one rfl (RV.tmp (by rfl)) (clo_c _) ⟨by rw [← modS_eq v], rfl⟩

theorem mod_i (v : Int) : VCalls Tryz.prog 180 [I v, I 2147483647] (fun r M => r = I (modW v) ∧ M = []) := by
  refine VCalls.body Tryz.func180 rfl 16 rfl (fun E => ?_)
  simp only [List.reduceReplicate, List.cons_append, List.nil_append]
  repeat' ((first
    | ((with_reducible show AL ..); first | refine AL.any ?_ | refine AL.any (h := POp.k Tryz.func78 (hc := inr_v _ _ _)) ?_ | refine AL.nil ?_)
    | ((with_reducible show AW ..); first | refine AW.seq ?_ | refine AW.region ?_ | refine AW.skip ?_ | refine AW.cT ?_ | refine AW.cF ?_ | (refine AW.c2 ?_ ?_ <;> (intro h; try simp only [bT, bF] at h)) | refine AW.block ?_ | refine AW.exit ?_ | refine AW.ret ?_)) <;> (try dsimp only))
  all_goals exact Fin.one rfl (RV.tmp (by rfl)) (clo_c _) ⟨by first | rw [modW, if_pos (by simpa using h)] | rw [modW, if_neg (by simpa using h)], rfl⟩

theorem fold_i (d v : Int) : VCalls Tryz.prog 162 [I d, I v] (fun r M => r = I (hstep d v) ∧ M = []) := by
  refine VCalls.body Tryz.func162 rfl 10 rfl (fun E => ?_)
  simp only [List.reduceReplicate, List.cons_append, List.nil_append]
  repeat' ((first
    | ((with_reducible show AL ..); first | refine AL.any ?_ | refine AL.any (h := POp.k Tryz.func180 (hc := mod_i _)) ?_ | refine AL.nil ?_)
    | ((with_reducible show AW ..); first | refine AW.seq ?_ | refine AW.region ?_ | refine AW.skip ?_ | refine AW.block ?_ | refine AW.exit ?_ | refine AW.ret ?_)) <;> (try dsimp only))
  all_goals exact Fin.one rfl (RV.tmp (by rfl)) (clo_c _) ⟨by rfl, rfl⟩

theorem hash_s (l : List Int) (hl : l.length ≤ 1048576) : VCalls Tryz.prog 142 [.ro 1 (l.map enI)] (fun r M => r = I (hsh l) ∧ M = []) := by
  refine VCalls.bodyE Tryz.func142 rfl 21 rfl (fun E hE => ?_)
  simp only [List.reduceReplicate, List.cons_append, List.nil_append]
  have hclo : Clo (.ro 1 (l.map enI)) := clo_list clo_enI
  repeat' ((first
    | ((with_reducible show AL ..); first | refine AL.any ?_ | refine AL.any (h := POp.k Tryz.func161 (hc := mod_s _)) ?_ | refine AL.nil ?_)
    | ((with_reducible show AW ..); first | refine AW.seq ?_ | refine AW.region ?_ | refine AW.skip ?_ | (refine AW.loopD hE (fun i : Nat => [.ro 1 (l.map enI), .any, .any, I (hshTo l i), I (i : Int), .any, .any, .any, .any, .any, .any, .any, .any, .any, .any, .any, .any, .any, .any, .any, .any, .any]) (fun i => []) (fun i => l.length - i) (fun i => i ≤ l.length) 0 (by simp) ?_ (by first | rfl | (simp [fil_zero]; done)) ?_) | refine AW.cT ?_ | refine AW.cF ?_ | (refine AW.c2 ?_ ?_ <;> (intro h; try simp only [bT, bF] at h)) | refine AW.block ?_ | refine AW.exit ?_ | refine AW.ret ?_)
    | with_reducible refine ifP ?_
    | with_reducible refine ifN ?_) <;> (try dsimp only))
  · (repeat' (first | exact Wk.nil | refine Wk.any ?_ | (with_reducible refine Wk.same ?_) | refine Wk.of ?_ ?_)) <;> first | rfl | (simp [hshTo])
  · intro i hi
    have hclo : Clo (.ro 1 (l.map enI)) := clo_list clo_enI
    by_cases hlt : i < l.length
    · obtain ⟨x, hx⟩ : ∃ x, l[i]? = some x := ⟨_, List.getElem?_eq_getElem hlt⟩
      have hg := map_get (f := enI) hx
      have ht := lt_true (f := enI) hlt
      have hn := next_ix hlt (by omega)
      have hac := hshTo_succ hx
      repeat' ((first
        | ((with_reducible show AL ..); first | refine AL.any ?_ | refine AL.any (h := POp.k Tryz.func161 (hc := mod_s _)) ?_ | refine AL.nil ?_)
        | ((with_reducible show AW ..); first | refine AW.seq ?_ | refine AW.region ?_ | refine AW.skip ?_ | refine AW.cT ?_ | refine AW.cF ?_ | (refine AW.c2 ?_ ?_ <;> (intro h; try simp only [bT, bF] at h)) | refine AW.block ?_ | refine AW.exit ?_ | refine AW.ret ?_)
        | with_reducible refine ifP ?_
        | with_reducible refine ifN ?_) <;> (try dsimp only))
      all_goals first
        | (refine ⟨i + 1, _, hlt, by omega, ?_, rfl, ?_, ?_⟩; (focus ((repeat' (first | exact Wk.nil | refine Wk.any ?_ | (with_reducible refine Wk.same ?_) | refine Wk.of ?_ ?_)) <;> (first | rfl | (rw [hac]; done) | (rw [hac]; rfl) | simp_all))); (focus ((repeat' (first | exact Fits.nil _ | refine Fits.cons ?_ ?_ | exact Fits.any _ | exact Fits.c _ _ | exact Fits.own (by rfl) | exact Fits.ref (by rfl) | exact Fits.clo (by assumption) | exact Fits.clo (clo_of (by rfl)) | exact Fits.clo (clo_fn _))))); (focus (exact FitsM.nil _)))
    · have ht := lt_false (f := enI) hlt
      have e : i = l.length := by omega
      subst e
      try rw [List.take_length]
      repeat' ((first
        | ((with_reducible show AL ..); first | refine AL.any ?_ | refine AL.any (h := POp.k Tryz.func161 (hc := mod_s _)) ?_ | refine AL.nil ?_)
        | ((with_reducible show AW ..); first | refine AW.seq ?_ | refine AW.region ?_ | refine AW.skip ?_ | refine AW.cT ?_ | refine AW.cF ?_ | (refine AW.c2 ?_ ?_ <;> (intro h; try simp only [bT, bF] at h)) | refine AW.block ?_ | refine AW.exit ?_ | refine AW.ret ?_)
        | with_reducible refine ifP ?_
        | with_reducible refine ifN ?_) <;> (try dsimp only))
      all_goals exact Fin.one rfl (RV.tmp (by rfl)) (clo_c _) ⟨by rw [hshTo_all], rfl⟩

theorem hash_i (l : List Int) (hl : l.length ≤ 1048576) : VCalls Tryz.prog 143 [.ro 1 (l.map enI)] (fun r M => r = I (hsh l) ∧ M = []) := by
  refine VCalls.bodyE Tryz.func143 rfl 16 rfl (fun E hE => ?_)
  simp only [List.reduceReplicate, List.cons_append, List.nil_append]
  have hclo : Clo (.ro 1 (l.map enI)) := clo_list clo_enI
  repeat' ((first
    | ((with_reducible show AL ..); first | refine AL.any ?_ | refine AL.any (h := POp.k Tryz.func162 (hc := fold_i _ _)) ?_ | refine AL.nil ?_)
    | ((with_reducible show AW ..); first | refine AW.seq ?_ | refine AW.region ?_ | refine AW.skip ?_ | (refine AW.loopD hE (fun i : Nat => [.ro 1 (l.map enI), .any, .any, I (hshTo l i), .any, .any, .ro 1 (l.map enI), I ((l.map enI).length : Int), I (i : Int), .any, .any, .any, .any, .any, .any, .any, .any]) (fun i => []) (fun i => l.length - i) (fun i => i ≤ l.length) 0 (by simp) ?_ (by first | rfl | (simp [fil_zero]; done)) ?_) | refine AW.cT ?_ | refine AW.cF ?_ | (refine AW.c2 ?_ ?_ <;> (intro h; try simp only [bT, bF] at h)) | refine AW.block ?_ | refine AW.exit ?_ | refine AW.ret ?_)
    | with_reducible refine ifP ?_
    | with_reducible refine ifN ?_) <;> (try dsimp only))
  · (repeat' (first | exact Wk.nil | refine Wk.any ?_ | (with_reducible refine Wk.same ?_) | refine Wk.of ?_ ?_)) <;> first | rfl | (simp [hshTo])
  · intro i hi
    have hclo : Clo (.ro 1 (l.map enI)) := clo_list clo_enI
    by_cases hlt : i < l.length
    · obtain ⟨x, hx⟩ : ∃ x, l[i]? = some x := ⟨_, List.getElem?_eq_getElem hlt⟩
      have hg := map_get (f := enI) hx
      have ht := lt_true (f := enI) hlt
      have hn := next_ix hlt (by omega)
      have hac := hshTo_succ hx
      repeat' ((first
        | ((with_reducible show AL ..); first | refine AL.any ?_ | refine AL.any (h := POp.k Tryz.func162 (hc := fold_i _ _)) ?_ | refine AL.nil ?_)
        | ((with_reducible show AW ..); first | refine AW.seq ?_ | refine AW.region ?_ | refine AW.skip ?_ | refine AW.cT ?_ | refine AW.cF ?_ | (refine AW.c2 ?_ ?_ <;> (intro h; try simp only [bT, bF] at h)) | refine AW.block ?_ | refine AW.exit ?_ | refine AW.ret ?_)
        | with_reducible refine ifP ?_
        | with_reducible refine ifN ?_) <;> (try dsimp only))
      all_goals first
        | (refine ⟨i + 1, _, hlt, by omega, ?_, rfl, ?_, ?_⟩; (focus ((repeat' (first | exact Wk.nil | refine Wk.any ?_ | (with_reducible refine Wk.same ?_) | refine Wk.of ?_ ?_)) <;> (first | rfl | (rw [hac]; done) | (rw [hac]; rfl) | simp_all))); (focus ((repeat' (first | exact Fits.nil _ | refine Fits.cons ?_ ?_ | exact Fits.any _ | exact Fits.c _ _ | exact Fits.own (by rfl) | exact Fits.ref (by rfl) | exact Fits.clo (by assumption) | exact Fits.clo (clo_of (by rfl)) | exact Fits.clo (clo_fn _))))); (focus (exact FitsM.nil _)))
    · have ht := lt_false (f := enI) hlt
      have e : i = l.length := by omega
      subst e
      try rw [List.take_length]
      repeat' ((first
        | ((with_reducible show AL ..); first | refine AL.any ?_ | refine AL.any (h := POp.k Tryz.func162 (hc := fold_i _ _)) ?_ | refine AL.nil ?_)
        | ((with_reducible show AW ..); first | refine AW.seq ?_ | refine AW.region ?_ | refine AW.skip ?_ | refine AW.cT ?_ | refine AW.cF ?_ | (refine AW.c2 ?_ ?_ <;> (intro h; try simp only [bT, bF] at h)) | refine AW.block ?_ | refine AW.exit ?_ | refine AW.ret ?_)
        | with_reducible refine ifP ?_
        | with_reducible refine ifN ?_) <;> (try dsimp only))
      all_goals exact Fin.one rfl (RV.tmp (by rfl)) (clo_c _) ⟨by rw [hshTo_all], rfl⟩

theorem find_s (l : List TFeature) (k : Int) (hl : l.length ≤ 1048576) : VCalls Tryz.prog 141 [.ro 5 (l.map TFeature.en), I k] (fun r M => r = I (fnd l k) ∧ M = []) := by
  refine VCalls.bodyE Tryz.func141 rfl 18 rfl (fun E hE => ?_)
  simp only [List.reduceReplicate, List.cons_append, List.nil_append]
  have hclo : Clo (.ro 5 (l.map TFeature.en)) := clo_list TFeature.clo_en
  repeat' ((first
    | ((with_reducible show AL ..); first | refine AL.any ?_ | refine AL.nil ?_)
    | ((with_reducible show AW ..); first | refine AW.seq ?_ | refine AW.region ?_ | refine AW.skip ?_ | (refine AW.loopD hE (fun i : Nat => [.ro 5 (l.map TFeature.en), I k, .any, .any, .any, I (i : Int), .any, .any, .any, .any, .any, .any, .any, .any, .any, .any, .any, .any, .any, .any]) (fun i => []) (fun i => l.length - i) (fun i => i ≤ l.length ∧ fndTo l k i = true) 0 (by simp [fndTo]) ?_ (by first | rfl | (simp [fil_zero]; done)) ?_) | refine AW.cT ?_ | refine AW.cF ?_ | (refine AW.c2 ?_ ?_ <;> (intro h; try simp only [bT, bF] at h)) | refine AW.block ?_ | refine AW.exit ?_ | refine AW.ret ?_)
    | with_reducible refine ifP ?_
    | with_reducible refine ifN ?_) <;> (try dsimp only))
  · (repeat' (first | exact Wk.nil | refine Wk.any ?_ | (with_reducible refine Wk.same ?_) | refine Wk.of ?_ ?_)) <;> first | rfl | (simp)
  · intro i hi
    have hclo : Clo (.ro 5 (l.map TFeature.en)) := clo_list TFeature.clo_en
    by_cases hlt : i < l.length
    · obtain ⟨x, hx⟩ : ∃ x, l[i]? = some x := ⟨_, List.getElem?_eq_getElem hlt⟩
      have hg := map_get (f := TFeature.en) hx
      have ht := lt_true (f := TFeature.en) hlt
      have hn := next_ix hlt (by omega)
      have hsu := fndTo_succ (k := k) hx
      have hfs := fnd_some (k := k) hx
      repeat' ((first
        | ((with_reducible show AL ..); first | refine AL.any ?_ | refine AL.nil ?_)
        | ((with_reducible show AW ..); first | refine AW.seq ?_ | refine AW.region ?_ | refine AW.skip ?_ | refine AW.cT ?_ | refine AW.cF ?_ | (refine AW.c2 ?_ ?_ <;> (intro h; try simp only [bT, bF] at h)) | refine AW.block ?_ | refine AW.exit ?_ | refine AW.ret ?_)
        | with_reducible refine ifP ?_
        | with_reducible refine ifN ?_) <;> (try dsimp only))
      all_goals first
        | (refine ⟨i + 1, _, ⟨hlt, by simp_all⟩, by omega, ?_, rfl, ?_, ?_⟩; (focus ((repeat' (first | exact Wk.nil | refine Wk.any ?_ | (with_reducible refine Wk.same ?_) | refine Wk.of ?_ ?_)) <;> (simp_all))); (focus ((repeat' (first | exact Fits.nil _ | refine Fits.cons ?_ ?_ | exact Fits.any _ | exact Fits.c _ _ | exact Fits.own (by rfl) | exact Fits.ref (by rfl) | exact Fits.clo (by assumption) | exact Fits.clo (clo_of (by rfl)) | exact Fits.clo (clo_fn _))))); (focus (exact FitsM.nil _)))
        | exact Fin.one rfl (RV.tmp (by rfl)) (clo_c _) ⟨by rw [hfs (by assumption) hi.2], rfl⟩
    · have ht := lt_false (f := TFeature.en) hlt
      have e : i = l.length := by omega
      subst e
      try rw [List.take_length]
      repeat' ((first
        | ((with_reducible show AL ..); first | refine AL.any ?_ | refine AL.nil ?_)
        | ((with_reducible show AW ..); first | refine AW.seq ?_ | refine AW.region ?_ | refine AW.skip ?_ | refine AW.cT ?_ | refine AW.cF ?_ | (refine AW.c2 ?_ ?_ <;> (intro h; try simp only [bT, bF] at h)) | refine AW.block ?_ | refine AW.exit ?_ | refine AW.ret ?_)
        | with_reducible refine ifP ?_
        | with_reducible refine ifN ?_) <;> (try dsimp only))
      all_goals exact Fin.one rfl (RV.tmp (by rfl)) (clo_c _) ⟨by rw [fnd_none (by simpa using hi.2)], rfl⟩

theorem find1_i (f : TFeature) (k : Int) : VCalls Tryz.prog 183 [.agg f.en, .rop 1 [[I k]] 0 0] (fun r M => r = B (f.id == k) ∧ M = []) := by
  refine VCalls.body Tryz.func183 rfl 6 rfl (fun E => ?_)
  simp only [List.reduceReplicate, List.cons_append, List.nil_append]
  dsimp only [TFeature.en]
  repeat' ((first
    | ((with_reducible show AL ..); first | refine AL.any ?_ | refine AL.nil ?_)
    | ((with_reducible show AW ..); first | refine AW.seq ?_ | refine AW.region ?_ | refine AW.skip ?_ | refine AW.block ?_ | refine AW.exit ?_ | refine AW.ret ?_)) <;> (try dsimp only))
  all_goals exact Fin.one rfl (RV.tmp (by rfl)) (clo_c _) ⟨by rfl, rfl⟩

theorem index_i (l : List TFeature) (k : Int) (hl : l.length ≤ 1048576) : VCalls Tryz.prog 182 [.ro 5 (l.map TFeature.en), .fn 183 [.rop 1 [[I k]] 0 0]] (fun r M => r = I (fnd l k) ∧ M = []) := by
  refine VCalls.bodyE Tryz.func182 rfl 17 rfl (fun E hE => ?_)
  simp only [List.reduceReplicate, List.cons_append, List.nil_append]
  have hclo : Clo (.ro 5 (l.map TFeature.en)) := clo_list TFeature.clo_en
  have hcr : Clo (.rop 1 [[I k]] 0 0) := Clo.rop (clo_rows_b rfl)
  have hcf : Clo (.fn 183 [.rop 1 [[I k]] 0 0]) := Clo.fn (fun y hy => by rw [List.mem_singleton.1 hy]; exact Clo.rop (clo_rows_b rfl))
  repeat' ((first
    | ((with_reducible show AL ..); first | refine AL.any ?_ | refine AL.nil ?_)
    | ((with_reducible show AW ..); first | refine AW.seq ?_ | refine AW.region ?_ | refine AW.skip ?_ | (refine AW.loopD hE (fun i : Nat => [.ro 5 (l.map TFeature.en), .fn 183 [.rop 1 [[I k]] 0 0], .any, .any, .any, .any, .any, I ((l.map TFeature.en).length : Int), I (i : Int), .any, .any, .any, .any, .any, .any, .any, .any, .any, .any]) (fun i => []) (fun i => l.length - i) (fun i => i ≤ l.length ∧ fndTo l k i = true) 0 (by simp [fndTo]) ?_ (by first | rfl | (simp [fil_zero]; done)) ?_) | refine AW.cT ?_ | refine AW.cF ?_ | (refine AW.c2 ?_ ?_ <;> (intro h; try simp only [bT, bF] at h)) | refine AW.block ?_ | refine AW.exit ?_ | refine AW.ret ?_)
    | refine AL.any (h := POp.kc Tryz.func183 (hc := find1_i x k)) ?_
    | with_reducible refine ifP ?_
    | with_reducible refine ifN ?_) <;> (try dsimp only))
  · (repeat' (first | exact Wk.nil | refine Wk.any ?_ | (with_reducible refine Wk.same ?_) | refine Wk.of ?_ ?_)) <;> first | rfl | (simp)
  · intro i hi
    have hclo : Clo (.ro 5 (l.map TFeature.en)) := clo_list TFeature.clo_en
    have hcr : Clo (.rop 1 [[I k]] 0 0) := Clo.rop (clo_rows_b rfl)
    have hcf : Clo (.fn 183 [.rop 1 [[I k]] 0 0]) := Clo.fn (fun y hy => by rw [List.mem_singleton.1 hy]; exact Clo.rop (clo_rows_b rfl))
    by_cases hlt : i < l.length
    · obtain ⟨x, hx⟩ : ∃ x, l[i]? = some x := ⟨_, List.getElem?_eq_getElem hlt⟩
      have hg := map_get (f := TFeature.en) hx
      have ht := lt_true (f := TFeature.en) hlt
      have hn := next_ix hlt (by omega)
      have hsu := fndTo_succ (k := k) hx
      have hfs := fnd_some (k := k) hx
      have hcle : Clo (.agg x.en) := Clo.agg x.clo_en
      have hclP : Clo (.ro 2 (x.points.map TPoint.en)) := clo_list TPoint.clo_en
      repeat' ((first
        | ((with_reducible show AL ..); first | refine AL.any ?_ | refine AL.nil ?_)
        | ((with_reducible show AW ..); first | refine AW.seq ?_ | refine AW.region ?_ | refine AW.skip ?_ | refine AW.cT ?_ | refine AW.cF ?_ | (refine AW.c2 ?_ ?_ <;> (intro h; try simp only [bT, bF] at h)) | refine AW.block ?_ | refine AW.exit ?_ | refine AW.ret ?_)
        | refine AL.any (h := POp.kc Tryz.func183 (hc := find1_i x k)) ?_
        | with_reducible refine ifP ?_
        | with_reducible refine ifN ?_) <;> (try dsimp only))
      all_goals first
        | (refine ⟨i + 1, _, ⟨hlt, by simp_all⟩, by omega, ?_, rfl, ?_, ?_⟩; (focus ((repeat' (first | exact Wk.nil | refine Wk.any ?_ | (with_reducible refine Wk.same ?_) | refine Wk.of ?_ ?_)) <;> (simp_all))); (focus ((repeat' (first | exact Fits.nil _ | refine Fits.cons ?_ ?_ | exact Fits.any _ | exact Fits.c _ _ | exact Fits.own (by rfl) | exact Fits.ref (by rfl) | exact Fits.clo (by assumption) | exact Fits.clo (clo_of (by rfl)) | exact Fits.clo (clo_fn _))))); (focus (exact FitsM.nil _)))
        | exact Fin.one rfl (RV.tmp (by rfl)) (clo_c _) ⟨by rw [hfs (by assumption) hi.2], rfl⟩
    · have ht := lt_false (f := TFeature.en) hlt
      have e : i = l.length := by omega
      subst e
      try rw [List.take_length]
      repeat' ((first
        | ((with_reducible show AL ..); first | refine AL.any ?_ | refine AL.nil ?_)
        | ((with_reducible show AW ..); first | refine AW.seq ?_ | refine AW.region ?_ | refine AW.skip ?_ | refine AW.cT ?_ | refine AW.cF ?_ | (refine AW.c2 ?_ ?_ <;> (intro h; try simp only [bT, bF] at h)) | refine AW.block ?_ | refine AW.exit ?_ | refine AW.ret ?_)
        | refine AL.any (h := POp.kc Tryz.func183 (hc := find1_i x k)) ?_
        | with_reducible refine ifP ?_
        | with_reducible refine ifN ?_) <;> (try dsimp only))
      all_goals exact Fin.one rfl (RV.tmp (by rfl)) (clo_c _) ⟨by rw [fnd_none (by simpa using hi.2)], rfl⟩

theorem find_i (l : List TFeature) (k : Int) (hl : l.length ≤ 1048576) : VCalls Tryz.prog 164 [.ro 5 (l.map TFeature.en), I k] (fun r M => r = I (fnd l k) ∧ M = []) := by
  refine VCalls.body Tryz.func164 rfl 6 rfl (fun E => ?_)
  simp only [List.reduceReplicate, List.cons_append, List.nil_append]
  have hclo : Clo (.ro 5 (l.map TFeature.en)) := clo_list TFeature.clo_en
  have hcr : Clo (.rop 1 [[I k]] 0 0) := Clo.rop (clo_rows_b rfl)
  have hcf : Clo (.fn 183 [.rop 1 [[I k]] 0 0]) := Clo.fn (fun y hy => by rw [List.mem_singleton.1 hy]; exact Clo.rop (clo_rows_b rfl))
  repeat' ((first
    | ((with_reducible show AL ..); first | refine AL.any (h := POp.bxf) ?_ | refine AL.any ?_ | refine AL.any (h := POp.k Tryz.func182 (hc := index_i _ _ (by assumption))) ?_ | refine AL.nil ?_)
    | ((with_reducible show AW ..); first | refine AW.seq ?_ | refine AW.region ?_ | refine AW.skip ?_ | refine AW.block ?_ | refine AW.exit ?_ | refine AW.ret ?_)) <;> (try dsimp only))
  all_goals exact Fin.one rfl (RV.tmp (by rfl)) (clo_c _) ⟨by rfl, rfl⟩

theorem hash_s' {es : List (List AV)} (l : List Int) (he : es = l.map enI) (hl : l.length ≤ 1048576) : VCalls Tryz.prog 142 [.ro 1 es] (fun r M => r = I (hsh l) ∧ M = []) := he ▸ hash_s l hl
theorem hash_i' {es : List (List AV)} (l : List Int) (he : es = l.map enI) (hl : l.length ≤ 1048576) : VCalls Tryz.prog 143 [.ro 1 es] (fun r M => r = I (hsh l) ∧ M = []) := he ▸ hash_i l hl
theorem pd_s_f (f : TFeature) (part : Int) (hgd : f.gd) (hf : isFeat f = false) : VCalls Tryz.prog 140 [.agg f.en, I part] (fun r M => r = I (pd f part) ∧ M = []) := by
  refine VCalls.body Tryz.func140 rfl 96 rfl (fun E => ?_)
  simp only [List.reduceReplicate, List.cons_append, List.nil_append]
  have hcle : Clo (.agg f.en) := Clo.agg f.clo_en
  repeat' ((first
    | ((with_reducible show AL ..); first | refine AL.any ?_ | refine AL.any (h := POp.k Tryz.func77 (hc := inr_s _ _ _)) ?_ | refine AL.any (h := POp.k Tryz.func123 (hc := isFeat_s f (by assumption))) ?_ | refine AL.any (h := POp.k Tryz.func160 (hc := parts_s f (by assumption))) ?_ | refine AL.U ?_ | refine AL.F ?_ | refine AL.T ?_ | refine AL.W ?_ | refine AL.nil ?_)
    | ((with_reducible show DL ..); first | refine DL.any ?_ | refine DL.nil ?_)
    | ((with_reducible show DLM ..); first | refine DLM.any ?_ | refine DLM.mk ?_ | refine DLM.nil ?_)
    | ((with_reducible show AW ..); first | refine AW.seq ?_ | refine AW.region ?_ | refine AW.skip ?_ | refine AW.drM (id := 11) 12 11 ?_ | refine AW.drM (id := 13) 26 25 ?_ | refine AW.cT ?_ | refine AW.cF ?_ | (refine AW.c2 ?_ ?_ <;> (intro h; try simp only [bT, bF] at h)) | refine AW.block ?_ | refine AW.exit ?_ | refine AW.ret ?_)
    | with_reducible refine ifP ?_
    | with_reducible refine ifN ?_) <;> (try dsimp only))
  all_goals exact Fin.one rfl (RV.tmp (by rfl)) (clo_c _) ⟨by rw [pd_f part hf], rfl⟩

theorem pd_s_t (f : TFeature) (part : Int) (hgd : f.gd) (hf : isFeat f = true) : VCalls Tryz.prog 140 [.agg f.en, I part] (fun r M => r = I (pd f part) ∧ M = []) := by
  refine VCalls.bodyE Tryz.func140 rfl 96 rfl (fun E hE => ?_)
  simp only [List.reduceReplicate, List.cons_append, List.nil_append]
  have hclP : Clo (.ro 2 (f.points.map TPoint.en)) := clo_list TPoint.clo_en
  have hclS : Clo (.ro 4 ((partsOf f).map TSegment.en)) := clo_list TSegment.clo_en
  have hcle : Clo (.agg f.en) := Clo.agg f.clo_en
  have hnm := feat_name hf
  repeat' ((first
    | ((with_reducible show AL ..); first | refine AL.any ?_ | refine AL.any (h := POp.k Tryz.func77 (hc := inr_s _ _ _)) ?_ | refine AL.any (h := POp.k Tryz.func123 (hc := isFeat_s f (by assumption))) ?_ | refine AL.any (h := POp.kv Tryz.func142 (hc := hash_s' (pdOf f part ++ [(pt0 f).x, (pt0 f).y]) (pd_rows f part [(pt0 f).x, (pt0 f).y]) (pd_rows_len [(pt0 f).x, (pt0 f).y] hf (Nat.le_of_ble_eq_true rfl)))) ?_ | refine AL.any (h := POp.kv Tryz.func142 (hc := hash_s' (pdOf f part ++ [(ptAt f part.toNat).a.x, (ptAt f part.toNat).a.y, (ptAt f part.toNat).b.x, (ptAt f part.toNat).b.y]) (pd_rows f part [(ptAt f part.toNat).a.x, (ptAt f part.toNat).a.y, (ptAt f part.toNat).b.x, (ptAt f part.toNat).b.y]) (pd_rows_len [(ptAt f part.toNat).a.x, (ptAt f part.toNat).a.y, (ptAt f part.toNat).b.x, (ptAt f part.toNat).b.y] hf (Nat.le_of_ble_eq_true rfl)))) ?_ | refine AL.any (h := POp.k Tryz.func160 (hc := parts_s f (by assumption))) ?_ | refine AL.U ?_ | refine AL.F ?_ | refine AL.T ?_ | refine AL.W ?_ | refine AL.nil ?_)
    | ((with_reducible show DL ..); first | refine DL.any ?_ | refine DL.nil ?_)
    | ((with_reducible show DLM ..); first | refine DLM.any ?_ | refine DLM.mk ?_ | refine DLM.nil ?_)
    | ((with_reducible show AW ..); first | refine AW.seq ?_ | refine AW.region ?_ | refine AW.skip ?_ | (refine AW.loopD hE (fun i : Nat => (.any :: I part :: .ref 0 0 5 0 0 :: .any :: .any :: .own 1 i :: I (i : Int) :: .any :: .any :: .any :: .any :: .any :: .any :: .any :: .any :: .any :: .any :: .any :: .any :: .any :: .any :: .any :: .any :: .any :: .any :: .any :: .any :: .any :: .any :: .any :: .any :: .any :: .any :: .any :: .any :: .any :: .any :: .any :: .any :: .any :: .any :: .any :: .any :: .any :: .any :: .any :: .any :: .any :: .any :: .any :: .any :: .any :: .any :: .any :: .any :: .any :: .any :: .any :: .any :: .any :: .any :: .any :: .any :: .any :: .any :: .any :: .any :: .any :: .any :: .any :: .any :: .any :: .any :: .any :: .any :: .any :: .any :: .any :: .any :: .any :: .any :: .any :: .any :: .any :: .any :: .any :: .any :: .any :: .any :: .any :: .any :: .any :: .any :: .any :: .any :: .any :: .any :: .any :: [])) (fun i => [some ⟨69, 5, 0, true, [f.en]⟩, some ⟨3, 1, i, false, (pvals f i).map enI⟩]) (fun i => f.name.size - i) (fun i => i ≤ f.name.size) 0 (Nat.zero_le _) ?_ (by first | rfl | (simp [fil_zero]; done)) ?_) | refine AW.drM (id := 11) 12 11 ?_ | refine AW.drM (id := 13) 26 25 ?_ | refine AW.cT ?_ | refine AW.cF ?_ | (refine AW.c2 ?_ ?_ <;> (intro h; try simp only [bT, bF] at h)) | refine AW.block ?_ | refine AW.exit ?_ | refine AW.ret ?_)
    | with_reducible refine ifP ?_
    | with_reducible refine ifN ?_) <;> (try dsimp only))
  · (repeat' (first | exact Wk.nil | refine Wk.any ?_ | (with_reducible refine Wk.same ?_) | refine Wk.of ?_ ?_)) <;> first | rfl | (rfl)
  · intro i hi
    have hclP : Clo (.ro 2 (f.points.map TPoint.en)) := clo_list TPoint.clo_en
    have hclS : Clo (.ro 4 ((partsOf f).map TSegment.en)) := clo_list TSegment.clo_en
    have hcle : Clo (.agg f.en) := Clo.agg f.clo_en
    have hnm := feat_name hf
    by_cases hlt : i < f.name.size
    · skip
      obtain ⟨b, hb, hb'⟩ := byte_get hlt
      have ht := bytes_lt hlt
      have hn := next_ix hlt (by omega)
      have hm := pvals_succ hb
      have hbw : IntKind.i64.wrap ((b.toNat : Nat) : Int) = ((b.toNat : Nat) : Int) := w64 (by omega) (by have := b.toNat_lt; omega)
      rw [← hbw] at hm
      have hln := pvals_len f i
      repeat' ((first
        | ((with_reducible show AL ..); first | refine AL.any ?_ | refine AL.any (h := POp.k Tryz.func77 (hc := inr_s _ _ _)) ?_ | refine AL.any (h := POp.k Tryz.func123 (hc := isFeat_s f (by assumption))) ?_ | refine AL.any (h := POp.kv Tryz.func142 (hc := hash_s' (pdOf f part ++ [(pt0 f).x, (pt0 f).y]) (pd_rows f part [(pt0 f).x, (pt0 f).y]) (pd_rows_len [(pt0 f).x, (pt0 f).y] hf (Nat.le_of_ble_eq_true rfl)))) ?_ | refine AL.any (h := POp.kv Tryz.func142 (hc := hash_s' (pdOf f part ++ [(ptAt f part.toNat).a.x, (ptAt f part.toNat).a.y, (ptAt f part.toNat).b.x, (ptAt f part.toNat).b.y]) (pd_rows f part [(ptAt f part.toNat).a.x, (ptAt f part.toNat).a.y, (ptAt f part.toNat).b.x, (ptAt f part.toNat).b.y]) (pd_rows_len [(ptAt f part.toNat).a.x, (ptAt f part.toNat).a.y, (ptAt f part.toNat).b.x, (ptAt f part.toNat).b.y] hf (Nat.le_of_ble_eq_true rfl)))) ?_ | refine AL.any (h := POp.k Tryz.func160 (hc := parts_s f (by assumption))) ?_ | refine AL.U ?_ | refine AL.F ?_ | refine AL.T ?_ | refine AL.W ?_ | refine AL.nil ?_)
        | ((with_reducible show DL ..); first | refine DL.any ?_ | refine DL.nil ?_)
        | ((with_reducible show DLM ..); first | refine DLM.any ?_ | refine DLM.mk ?_ | refine DLM.nil ?_)
        | ((with_reducible show AW ..); first | refine AW.seq ?_ | refine AW.region ?_ | refine AW.skip ?_ | refine AW.drM (id := 11) 12 11 ?_ | refine AW.drM (id := 13) 26 25 ?_ | refine AW.cT ?_ | refine AW.cF ?_ | (refine AW.c2 ?_ ?_ <;> (intro h; try simp only [bT, bF] at h)) | refine AW.block ?_ | refine AW.exit ?_ | refine AW.ret ?_)
        | with_reducible refine ifP ?_
        | with_reducible refine ifN ?_) <;> (try dsimp only))
      all_goals first
        | (refine ⟨i + 1, _, hlt, by omega, ?_, by rw [hm] <;> rfl, ?_, ?_⟩; (focus ((repeat' (first | exact Wk.nil | refine Wk.any ?_ | (with_reducible refine Wk.same ?_) | refine Wk.of ?_ ?_)) <;> (simp_all))); (focus ((repeat' (first | exact Fits.nil _ | refine Fits.cons ?_ ?_ | exact Fits.any _ | exact Fits.c _ _ | exact Fits.own (by rfl) | exact Fits.ref (by rfl) | exact Fits.clo (by assumption) | exact Fits.clo (clo_of (by rfl)) | exact Fits.clo (clo_fn _))))); (focus (exact fitsM_cons (clo_one f.clo_en) (fitsM_cons (clo_rows clo_enI) (FitsM.nil _)))))
    · have e : i = f.name.size := by omega
      have ht := bytes_ge hlt
      subst e
      have hln := pvals_len f f.name.size
      have hpl := partsOf_le f
      have hpd0 := pdOf_len (part := part) hf
      rcases pd_cases f part hf with ⟨hk, hz, hpd⟩ | ⟨hk, hz, hin, hpd⟩ | ⟨hk, hin, hq1, hq2, hq0, hqp, hpd⟩ | ⟨hk, hin, hq1, hpd⟩
      all_goals have hp0 := fun hk' => feat_pt hf hk'
      all_goals try have hp1 := hp0 hk
      repeat' ((first
        | ((with_reducible show AL ..); first | refine AL.any ?_ | refine AL.any (h := POp.k Tryz.func77 (hc := inr_s _ _ _)) ?_ | refine AL.any (h := POp.k Tryz.func123 (hc := isFeat_s f (by assumption))) ?_ | refine AL.any (h := POp.kv Tryz.func142 (hc := hash_s' (pdOf f part ++ [(pt0 f).x, (pt0 f).y]) (pd_rows f part [(pt0 f).x, (pt0 f).y]) (pd_rows_len [(pt0 f).x, (pt0 f).y] hf (Nat.le_of_ble_eq_true rfl)))) ?_ | refine AL.any (h := POp.kv Tryz.func142 (hc := hash_s' (pdOf f part ++ [(ptAt f part.toNat).a.x, (ptAt f part.toNat).a.y, (ptAt f part.toNat).b.x, (ptAt f part.toNat).b.y]) (pd_rows f part [(ptAt f part.toNat).a.x, (ptAt f part.toNat).a.y, (ptAt f part.toNat).b.x, (ptAt f part.toNat).b.y]) (pd_rows_len [(ptAt f part.toNat).a.x, (ptAt f part.toNat).a.y, (ptAt f part.toNat).b.x, (ptAt f part.toNat).b.y] hf (Nat.le_of_ble_eq_true rfl)))) ?_ | refine AL.any (h := POp.k Tryz.func160 (hc := parts_s f (by assumption))) ?_ | refine AL.U ?_ | refine AL.F ?_ | refine AL.T ?_ | refine AL.W ?_ | refine AL.nil ?_)
        | ((with_reducible show DL ..); first | refine DL.any ?_ | refine DL.nil ?_)
        | ((with_reducible show DLM ..); first | refine DLM.any ?_ | refine DLM.mk ?_ | refine DLM.nil ?_)
        | ((with_reducible show AW ..); first | refine AW.seq ?_ | refine AW.region ?_ | refine AW.skip ?_ | refine AW.drM (id := 11) 12 11 ?_ | refine AW.drM (id := 13) 26 25 ?_ | refine AW.cT ?_ | refine AW.cF ?_ | (refine AW.c2 ?_ ?_ <;> (intro h; try simp only [bT, bF] at h)) | refine AW.block ?_ | refine AW.exit ?_ | refine AW.ret ?_)
        | with_reducible refine ifP ?_
        | with_reducible refine ifN ?_) <;> (try dsimp only))
      all_goals exact Fin.one rfl (RV.tmp (by rfl)) (clo_c _) ⟨by first | (rw [hpd] <;> fail) | (exfalso; simp_all <;> fail), rfl⟩

theorem pd_s (f : TFeature) (part : Int) (hgd : f.gd) : VCalls Tryz.prog 140 [.agg f.en, I part] (fun r M => r = I (pd f part) ∧ M = []) := by
  cases hf : isFeat f
  · exact pd_s_f f part hgd hf
  · exact pd_s_t f part hgd hf
theorem pd_i_f (f : TFeature) (part : Int) (hgd : f.gd) (hf : isFeat f = false) : VCalls Tryz.prog 163 [.agg f.en, I part] (fun r M => r = I (pd f part) ∧ M = []) := by
  refine VCalls.body Tryz.func163 rfl 88 rfl (fun E => ?_)
  simp only [List.reduceReplicate, List.cons_append, List.nil_append]
  have hcle : Clo (.agg f.en) := Clo.agg f.clo_en
  repeat' ((first
    | ((with_reducible show AL ..); first | refine AL.any ?_ | refine AL.any (h := POp.k Tryz.func125 (hc := isFeat_i f (by assumption))) ?_ | refine AL.any (h := POp.k Tryz.func181 (hc := parts_i f (by assumption))) ?_ | refine AL.U ?_ | refine AL.F ?_ | refine AL.T ?_ | refine AL.W ?_ | refine AL.nil ?_)
    | ((with_reducible show DL ..); first | refine DL.any ?_ | refine DL.nil ?_)
    | ((with_reducible show DLM ..); first | refine DLM.any ?_ | refine DLM.mk ?_ | refine DLM.nil ?_)
    | ((with_reducible show AW ..); first | refine AW.seq ?_ | refine AW.region ?_ | refine AW.skip ?_ | refine AW.drM (id := 13) 12 11 ?_ | refine AW.cT ?_ | refine AW.cF ?_ | (refine AW.c2 ?_ ?_ <;> (intro h; try simp only [bT, bF] at h)) | refine AW.block ?_ | refine AW.exit ?_ | refine AW.ret ?_)
    | with_reducible refine ifP ?_
    | with_reducible refine ifN ?_) <;> (try dsimp only))
  all_goals exact Fin.one rfl (RV.tmp (by rfl)) (clo_c _) ⟨by rw [pd_f part hf], rfl⟩

theorem pd_i_t (f : TFeature) (part : Int) (hgd : f.gd) (hf : isFeat f = true) : VCalls Tryz.prog 163 [.agg f.en, I part] (fun r M => r = I (pd f part) ∧ M = []) := by
  refine VCalls.bodyE Tryz.func163 rfl 88 rfl (fun E hE => ?_)
  simp only [List.reduceReplicate, List.cons_append, List.nil_append]
  have hclP : Clo (.ro 2 (f.points.map TPoint.en)) := clo_list TPoint.clo_en
  have hclS : Clo (.ro 4 ((partsOf f).map TSegment.en)) := clo_list TSegment.clo_en
  have hcle : Clo (.agg f.en) := Clo.agg f.clo_en
  have hnm := feat_name hf
  repeat' ((first
    | ((with_reducible show AL ..); first | refine AL.any ?_ | refine AL.any (h := POp.k Tryz.func125 (hc := isFeat_i f (by assumption))) ?_ | refine AL.any (h := POp.kv Tryz.func143 (hc := hash_i' (pdOf f part ++ [(pt0 f).x, (pt0 f).y]) (pd_rows f part [(pt0 f).x, (pt0 f).y]) (pd_rows_len [(pt0 f).x, (pt0 f).y] hf (Nat.le_of_ble_eq_true rfl)))) ?_ | refine AL.any (h := POp.kv Tryz.func143 (hc := hash_i' (pdOf f part ++ [(ptAt f part.toNat).a.x, (ptAt f part.toNat).a.y, (ptAt f part.toNat).b.x, (ptAt f part.toNat).b.y]) (pd_rows f part [(ptAt f part.toNat).a.x, (ptAt f part.toNat).a.y, (ptAt f part.toNat).b.x, (ptAt f part.toNat).b.y]) (pd_rows_len [(ptAt f part.toNat).a.x, (ptAt f part.toNat).a.y, (ptAt f part.toNat).b.x, (ptAt f part.toNat).b.y] hf (Nat.le_of_ble_eq_true rfl)))) ?_ | refine AL.any (h := POp.k Tryz.func181 (hc := parts_i f (by assumption))) ?_ | refine AL.U ?_ | refine AL.F ?_ | refine AL.T ?_ | refine AL.W ?_ | refine AL.nil ?_)
    | ((with_reducible show DL ..); first | refine DL.any ?_ | refine DL.nil ?_)
    | ((with_reducible show DLM ..); first | refine DLM.any ?_ | refine DLM.mk ?_ | refine DLM.nil ?_)
    | ((with_reducible show AW ..); first | refine AW.seq ?_ | refine AW.region ?_ | refine AW.skip ?_ | (refine AW.loopD hE (fun i : Nat => (.any :: I part :: .ref 0 0 5 0 0 :: .any :: .any :: .own 1 i :: .any :: .any :: .any :: .any :: .any :: .any :: .any :: .any :: .any :: .any :: .any :: .any :: .any :: .any :: .any :: .any :: .any :: .any :: I (f.name.size : Int) :: I (i : Int) :: .any :: .any :: .any :: .any :: .any :: .any :: .any :: .any :: .any :: .any :: .any :: .any :: .any :: .any :: .any :: .any :: .any :: .any :: .any :: .any :: .any :: .any :: .any :: .any :: .any :: .any :: .any :: .any :: .any :: .any :: .any :: .any :: .any :: .any :: .any :: .any :: .any :: .any :: .any :: .any :: .any :: .any :: .any :: .any :: .any :: .any :: .any :: .any :: .any :: .any :: .any :: .any :: .any :: .any :: .any :: .any :: .any :: .any :: .any :: .any :: .any :: .any :: .any :: .any :: [])) (fun i => [some ⟨69, 5, 0, true, [f.en]⟩, some ⟨3, 1, i, false, (pvals f i).map enI⟩]) (fun i => f.name.size - i) (fun i => i ≤ f.name.size) 0 (Nat.zero_le _) ?_ (by first | rfl | (simp [fil_zero]; done)) ?_) | refine AW.drM (id := 13) 12 11 ?_ | refine AW.cT ?_ | refine AW.cF ?_ | (refine AW.c2 ?_ ?_ <;> (intro h; try simp only [bT, bF] at h)) | refine AW.block ?_ | refine AW.exit ?_ | refine AW.ret ?_)
    | with_reducible refine ifP ?_
    | with_reducible refine ifN ?_) <;> (try dsimp only))
  · (repeat' (first | exact Wk.nil | refine Wk.any ?_ | (with_reducible refine Wk.same ?_) | refine Wk.of ?_ ?_)) <;> first | rfl | (rfl)
  · intro i hi
    have hclP : Clo (.ro 2 (f.points.map TPoint.en)) := clo_list TPoint.clo_en
    have hclS : Clo (.ro 4 ((partsOf f).map TSegment.en)) := clo_list TSegment.clo_en
    have hcle : Clo (.agg f.en) := Clo.agg f.clo_en
    have hnm := feat_name hf
    by_cases hlt : i < f.name.size
    · skip
      obtain ⟨b, hb, hb'⟩ := byte_get hlt
      have ht := bytes_lt hlt
      have hn := next_ix hlt (by omega)
      have hm := pvals_succ hb
      have hbw : IntKind.i64.wrap ((b.toNat : Nat) : Int) = ((b.toNat : Nat) : Int) := w64 (by omega) (by have := b.toNat_lt; omega)
      rw [← hbw] at hm
      have hln := pvals_len f i
      repeat' ((first
        | ((with_reducible show AL ..); first | refine AL.any ?_ | refine AL.any (h := POp.k Tryz.func125 (hc := isFeat_i f (by assumption))) ?_ | refine AL.any (h := POp.kv Tryz.func143 (hc := hash_i' (pdOf f part ++ [(pt0 f).x, (pt0 f).y]) (pd_rows f part [(pt0 f).x, (pt0 f).y]) (pd_rows_len [(pt0 f).x, (pt0 f).y] hf (Nat.le_of_ble_eq_true rfl)))) ?_ | refine AL.any (h := POp.kv Tryz.func143 (hc := hash_i' (pdOf f part ++ [(ptAt f part.toNat).a.x, (ptAt f part.toNat).a.y, (ptAt f part.toNat).b.x, (ptAt f part.toNat).b.y]) (pd_rows f part [(ptAt f part.toNat).a.x, (ptAt f part.toNat).a.y, (ptAt f part.toNat).b.x, (ptAt f part.toNat).b.y]) (pd_rows_len [(ptAt f part.toNat).a.x, (ptAt f part.toNat).a.y, (ptAt f part.toNat).b.x, (ptAt f part.toNat).b.y] hf (Nat.le_of_ble_eq_true rfl)))) ?_ | refine AL.any (h := POp.k Tryz.func181 (hc := parts_i f (by assumption))) ?_ | refine AL.U ?_ | refine AL.F ?_ | refine AL.T ?_ | refine AL.W ?_ | refine AL.nil ?_)
        | ((with_reducible show DL ..); first | refine DL.any ?_ | refine DL.nil ?_)
        | ((with_reducible show DLM ..); first | refine DLM.any ?_ | refine DLM.mk ?_ | refine DLM.nil ?_)
        | ((with_reducible show AW ..); first | refine AW.seq ?_ | refine AW.region ?_ | refine AW.skip ?_ | refine AW.drM (id := 13) 12 11 ?_ | refine AW.cT ?_ | refine AW.cF ?_ | (refine AW.c2 ?_ ?_ <;> (intro h; try simp only [bT, bF] at h)) | refine AW.block ?_ | refine AW.exit ?_ | refine AW.ret ?_)
        | with_reducible refine ifP ?_
        | with_reducible refine ifN ?_) <;> (try dsimp only))
      all_goals first
        | (refine ⟨i + 1, _, hlt, by omega, ?_, by rw [hm] <;> rfl, ?_, ?_⟩; (focus ((repeat' (first | exact Wk.nil | refine Wk.any ?_ | (with_reducible refine Wk.same ?_) | refine Wk.of ?_ ?_)) <;> (simp_all))); (focus ((repeat' (first | exact Fits.nil _ | refine Fits.cons ?_ ?_ | exact Fits.any _ | exact Fits.c _ _ | exact Fits.own (by rfl) | exact Fits.ref (by rfl) | exact Fits.clo (by assumption) | exact Fits.clo (clo_of (by rfl)) | exact Fits.clo (clo_fn _))))); (focus (exact fitsM_cons (clo_one f.clo_en) (fitsM_cons (clo_rows clo_enI) (FitsM.nil _)))))
    · have e : i = f.name.size := by omega
      have ht := bytes_ge hlt
      subst e
      have hln := pvals_len f f.name.size
      have hpl := partsOf_le f
      have hpd0 := pdOf_len (part := part) hf
      rcases pd_cases f part hf with ⟨hk, hz, hpd⟩ | ⟨hk, hz, hin, hpd⟩ | ⟨hk, hin, hq1, hq2, hq0, hqp, hpd⟩ | ⟨hk, hin, hq1, hpd⟩
      all_goals have hp0 := fun hk' => feat_pt hf hk'
      all_goals try have hp1 := hp0 hk
      repeat' ((first
        | ((with_reducible show AL ..); first | refine AL.any ?_ | refine AL.any (h := POp.k Tryz.func125 (hc := isFeat_i f (by assumption))) ?_ | refine AL.any (h := POp.kv Tryz.func143 (hc := hash_i' (pdOf f part ++ [(pt0 f).x, (pt0 f).y]) (pd_rows f part [(pt0 f).x, (pt0 f).y]) (pd_rows_len [(pt0 f).x, (pt0 f).y] hf (Nat.le_of_ble_eq_true rfl)))) ?_ | refine AL.any (h := POp.kv Tryz.func143 (hc := hash_i' (pdOf f part ++ [(ptAt f part.toNat).a.x, (ptAt f part.toNat).a.y, (ptAt f part.toNat).b.x, (ptAt f part.toNat).b.y]) (pd_rows f part [(ptAt f part.toNat).a.x, (ptAt f part.toNat).a.y, (ptAt f part.toNat).b.x, (ptAt f part.toNat).b.y]) (pd_rows_len [(ptAt f part.toNat).a.x, (ptAt f part.toNat).a.y, (ptAt f part.toNat).b.x, (ptAt f part.toNat).b.y] hf (Nat.le_of_ble_eq_true rfl)))) ?_ | refine AL.any (h := POp.k Tryz.func181 (hc := parts_i f (by assumption))) ?_ | refine AL.U ?_ | refine AL.F ?_ | refine AL.T ?_ | refine AL.W ?_ | refine AL.nil ?_)
        | ((with_reducible show DL ..); first | refine DL.any ?_ | refine DL.nil ?_)
        | ((with_reducible show DLM ..); first | refine DLM.any ?_ | refine DLM.mk ?_ | refine DLM.nil ?_)
        | ((with_reducible show AW ..); first | refine AW.seq ?_ | refine AW.region ?_ | refine AW.skip ?_ | refine AW.drM (id := 13) 12 11 ?_ | refine AW.cT ?_ | refine AW.cF ?_ | (refine AW.c2 ?_ ?_ <;> (intro h; try simp only [bT, bF] at h)) | refine AW.block ?_ | refine AW.exit ?_ | refine AW.ret ?_)
        | with_reducible refine ifP ?_
        | with_reducible refine ifN ?_) <;> (try dsimp only))
      all_goals exact Fin.one rfl (RV.tmp (by rfl)) (clo_c _) ⟨by first | (rw [hpd] <;> fail) | (exfalso; simp_all <;> fail), rfl⟩

theorem pd_i (f : TFeature) (part : Int) (hgd : f.gd) : VCalls Tryz.prog 163 [.agg f.en, I part] (fun r M => r = I (pd f part) ∧ M = []) := by
  cases hf : isFeat f
  · exact pd_i_f f part hgd hf
  · exact pd_i_t f part hgd hf
theorem dig_i (l : List TFeature) (ps : List TPiece) (hl : l.length ≤ 1048576) (hp : ∀ x ∈ l, x.gd) (hps : ps.length ≤ 1048576) (hpi : pcIs l ps) : VCalls Tryz.prog 144 [.ro 5 (l.map TFeature.en), .ro 2 (ps.map TPiece.en)] (fun r M => r = .ro 1 ((dig l ps).map enI) ∧ M = []) := by
  refine VCalls.bodyE Tryz.func144 rfl 28 rfl (fun E hE => ?_)
  simp only [List.reduceReplicate, List.cons_append, List.nil_append]
  have hclo : Clo (.ro 5 (l.map TFeature.en)) := clo_list TFeature.clo_en
  have hclps : Clo (.ro 2 (ps.map TPiece.en)) := clo_list TPiece.clo_en
  repeat' ((first
    | ((with_reducible show AL ..); first | refine AL.any ?_ | refine AL.nil ?_)
    | ((with_reducible show DL ..); first | refine DL.any ?_ | refine DL.any (h := POp.k Tryz.func163 (hc := pd_i y x.part (by assumption))) ?_ | refine DL.any (h := POp.k Tryz.func164 (hc := find_i l x.id (by assumption))) ?_ | refine DL.nil ?_)
    | ((with_reducible show DLM ..); first | refine DLM.any ?_ | refine DLM.mk ?_ | refine DLM.any (h := fun Y => POp.k Tryz.func163 (hc := pd_i y x.part (by assumption))) ?_ | refine DLM.any (h := fun Y => POp.k Tryz.func164 (hc := find_i l x.id (by assumption))) ?_ | refine DLM.nil ?_)
    | ((with_reducible show AW ..); first | refine AW.seq ?_ | refine AW.region ?_ | refine AW.skip ?_ | (refine AW.loopD hE (fun i : Nat => [.ro 5 (l.map TFeature.en), .ro 2 (ps.map TPiece.en), .any, .any, .any, .own 0 i, .any, .any, .any, .ro 2 (ps.map TPiece.en), I ((ps.map TPiece.en).length : Int), I (i : Int), .any, .any, .any, .any, .any, .any, .any, .any, .any, .any, .any, .any, .any, .any, .any, .any, .any, .any]) (fun i => [some ⟨3, 1, i, false, (digTo l ps i).map enI⟩]) (fun i => ps.length - i) (fun i => i ≤ ps.length) 0 (by simp) ?_ (by first | rfl | (simp [fil_zero]; done)) ?_) | refine AW.drM (id := 5) 12 11 ?_ | refine AW.cT ?_ | refine AW.cF ?_ | (refine AW.c2 ?_ ?_ <;> (intro h; try simp only [bT, bF] at h)) | refine AW.block ?_ | refine AW.exit ?_ | refine AW.ret ?_)
    | with_reducible refine ifP ?_
    | with_reducible refine ifN ?_) <;> (try dsimp only))
  · (repeat' (first | exact Wk.nil | refine Wk.any ?_ | (with_reducible refine Wk.same ?_) | refine Wk.of ?_ ?_)) <;> first | rfl | (rfl)
  · intro i hi
    have hclo : Clo (.ro 5 (l.map TFeature.en)) := clo_list TFeature.clo_en
    have hclps : Clo (.ro 2 (ps.map TPiece.en)) := clo_list TPiece.clo_en
    by_cases hlt : i < ps.length
    · obtain ⟨x, hx⟩ : ∃ x, ps[i]? = some x := ⟨_, List.getElem?_eq_getElem hlt⟩
      have hg := map_get (f := TPiece.en) hx
      have ht := lt_true (f := TPiece.en) hlt
      have hn := next_ix hlt (by omega)
      obtain ⟨y, hym, hye, hy0, hyg⟩ := pc_at hpi hx
      have hgy := hp y hym
      have hm := digTo_map (l := l) hx
      rw [hye] at hm
      have hln := digTo_len l ps i
      have hclY : Clo (.agg y.en) := Clo.agg y.clo_en
      have hclP : Clo (.ro 2 (y.points.map TPoint.en)) := clo_list TPoint.clo_en
      repeat' ((first
        | ((with_reducible show AL ..); first | refine AL.any ?_ | refine AL.nil ?_)
        | ((with_reducible show DL ..); first | refine DL.any ?_ | refine DL.any (h := POp.k Tryz.func163 (hc := pd_i y x.part (by assumption))) ?_ | refine DL.any (h := POp.k Tryz.func164 (hc := find_i l x.id (by assumption))) ?_ | refine DL.nil ?_)
        | ((with_reducible show DLM ..); first | refine DLM.any ?_ | refine DLM.mk ?_ | refine DLM.any (h := fun Y => POp.k Tryz.func163 (hc := pd_i y x.part (by assumption))) ?_ | refine DLM.any (h := fun Y => POp.k Tryz.func164 (hc := find_i l x.id (by assumption))) ?_ | refine DLM.nil ?_)
        | ((with_reducible show AW ..); first | refine AW.seq ?_ | refine AW.region ?_ | refine AW.skip ?_ | refine AW.drM (id := 5) 12 11 ?_ | refine AW.cT ?_ | refine AW.cF ?_ | (refine AW.c2 ?_ ?_ <;> (intro h; try simp only [bT, bF] at h)) | refine AW.block ?_ | refine AW.exit ?_ | refine AW.ret ?_)
        | with_reducible refine ifP ?_
        | with_reducible refine ifN ?_) <;> (try dsimp only))
      all_goals first
        | (refine ⟨i + 1, _, hlt, by omega, ?_, by rw [hm] <;> rfl, ?_, ?_⟩; (focus ((repeat' (first | exact Wk.nil | refine Wk.any ?_ | (with_reducible refine Wk.same ?_) | refine Wk.of ?_ ?_)) <;> (simp_all))); (focus ((repeat' (first | exact Fits.nil _ | refine Fits.cons ?_ ?_ | exact Fits.any _ | exact Fits.c _ _ | exact Fits.own (by rfl) | exact Fits.ref (by rfl) | exact Fits.clo (by assumption) | exact Fits.clo (clo_of (by rfl)) | exact Fits.clo (clo_fn _))))); (focus (exact fits_row (clo_rows clo_enI))))
    · have ht := lt_false (f := TPiece.en) hlt
      have e : i = ps.length := by omega
      subst e
      try rw [List.take_length]
      repeat' ((first
        | ((with_reducible show AL ..); first | refine AL.any ?_ | refine AL.nil ?_)
        | ((with_reducible show DL ..); first | refine DL.any ?_ | refine DL.any (h := POp.k Tryz.func163 (hc := pd_i y x.part (by assumption))) ?_ | refine DL.any (h := POp.k Tryz.func164 (hc := find_i l x.id (by assumption))) ?_ | refine DL.nil ?_)
        | ((with_reducible show DLM ..); first | refine DLM.any ?_ | refine DLM.mk ?_ | refine DLM.any (h := fun Y => POp.k Tryz.func163 (hc := pd_i y x.part (by assumption))) ?_ | refine DLM.any (h := fun Y => POp.k Tryz.func164 (hc := find_i l x.id (by assumption))) ?_ | refine DLM.nil ?_)
        | ((with_reducible show AW ..); first | refine AW.seq ?_ | refine AW.region ?_ | refine AW.skip ?_ | (refine AW.freezeRet (t := 4) (id := 0) rfl rfl rfl rfl (clo_rows clo_enI) ?_; (try simp only [List.take_length]); try dsimp only [dput, List.set, cond_true, cond_false, Nat.zero_add, Nat.add_zero, Nat.reduceAdd, splice, List.take, List.drop, List.length, List.nil_append, List.cons_append, List.append, TPoint.en, TSegment.en, TBox.en, TFeature.en, TMeet.en, TPlace.en, TCover.en, TLabel.en, TPiece.en, TLevel.en, TChart.en, TReason.en, TEdit.en, TEntry.en, TEdition.en, TListing.en, TAtlas.en, TEvent.en, TWindow.en]) | refine AW.drM (id := 5) 12 11 ?_ | refine AW.cT ?_ | refine AW.cF ?_ | (refine AW.c2 ?_ ?_ <;> (intro h; try simp only [bT, bF] at h)) | refine AW.block ?_ | refine AW.exit ?_ | refine AW.ret ?_)
        | with_reducible refine ifP ?_
        | with_reducible refine ifN ?_) <;> (try dsimp only))
      all_goals exact Fin.one rfl (RV.tmp (by rfl)) (clo_list clo_enI) ⟨by rw [digTo_all], rfl⟩

theorem pca_i_f (f : TFeature) (hgd : f.gd) (hk : (f.kind == 1) = false) : VCalls Tryz.prog 165 [.agg f.en, .agg box0.en, B true] (fun r M => r = .ro 2 ((pca f).map TPiece.en) ∧ M = []) := by
  refine VCalls.bodyE Tryz.func165 rfl 51 rfl (fun E hE => ?_)
  simp only [List.reduceReplicate, List.cons_append, List.nil_append]
  have hclP : Clo (.ro 2 (f.points.map TPoint.en)) := clo_list TPoint.clo_en
  have hclS : Clo (.ro 4 ((partsOf f).map TSegment.en)) := clo_list TSegment.clo_en
  have hcle : Clo (.agg f.en) := Clo.agg f.clo_en
  have hpl := partsOf_le f
  have hb0 := pca_cases_f hk
  repeat' ((first
    | ((with_reducible show AL ..); first | refine AL.any ?_ | refine AL.any (h := POp.k Tryz.func181 (hc := parts_i f (by assumption))) ?_ | refine AL.U ?_ | refine AL.F ?_ | refine AL.T ?_ | refine AL.W ?_ | refine AL.nil ?_)
    | ((with_reducible show DL ..); first | refine DL.any ?_ | refine DL.U ?_ | refine DL.F ?_ | refine DL.T ?_ | refine DL.W ?_ | refine DL.nil ?_)
    | ((with_reducible show AW ..); first | refine AW.seq ?_ | refine AW.region ?_ | refine AW.skip ?_ | (refine AW.loopX hE (fun i : Nat => [.any, .any, B true, .ref 0 0 5 0 0, .ref 1 0 4 0 0, .any, .any, .own 2 (pcaTo f i).length, .any, .any, .any, .any, .any, .any, .any, .any, .any, .any, .any, .any, .any, .any, .any, .any, .any, .any, .any, .any, .any, .any, .any, .any, .ro 4 ((partsOf f).map TSegment.en), I (((partsOf f).map TSegment.en).length : Int), I (i : Int), .any, .any, .any, .any, .any, .any, .any, .any, .any, .any, .any, .any, .any, .any, .any, .any, .any, .any, .any]) (fun i => [some ⟨69, 5, 0, true, [f.en]⟩, some ⟨181, 4, 0, true, [box0.en]⟩, some ⟨166, 2, (pcaTo f i).length, false, (pcaTo f i).map TPiece.en⟩]) (fun i => (partsOf f).length - i) (fun i => i ≤ (partsOf f).length) 0 _ (by simp) ?_ (by first | rfl | (rw [hb0]; rfl)) ?_ ?_ ?_) | refine AW.dr (id := 2) 11 ?_ | refine AW.cT ?_ | refine AW.cF ?_ | (refine AW.c2 ?_ ?_ <;> (intro h; try simp only [bT, bF] at h)) | refine AW.block ?_ | refine AW.exit ?_ | refine AW.ret ?_)
    | with_reducible refine ifP ?_
    | with_reducible refine ifN ?_) <;> (try dsimp only))
  rotate_left 1
  · (repeat' (first | exact Fits.nil _ | refine Fits.cons ?_ ?_ | exact Fits.any _ | exact Fits.c _ _ | exact Fits.own (by rfl) | exact Fits.ref (by rfl) | exact Fits.clo (by assumption) | exact Fits.clo (clo_of (by rfl)) | exact Fits.clo (clo_fn _)))
  · exact fitsM_cons (clo_one f.clo_en) (fitsM_cons (clo_one box0.clo_en) (fitsM_cons (clo_rows TPiece.clo_en) (FitsM.nil _)))
  rotate_right 1
  · (repeat' (first | exact Wk.nil | refine Wk.any ?_ | (with_reducible refine Wk.same ?_) | refine Wk.of ?_ ?_)) <;> first | rfl | (simp_all)
  · intro i hi
    have hclP : Clo (.ro 2 (f.points.map TPoint.en)) := clo_list TPoint.clo_en
    have hclS : Clo (.ro 4 ((partsOf f).map TSegment.en)) := clo_list TSegment.clo_en
    have hcle : Clo (.agg f.en) := Clo.agg f.clo_en
    have hpl := partsOf_le f
    by_cases hlt : i < (partsOf f).length
    · obtain ⟨x, hx⟩ : ∃ x, (partsOf f)[i]? = some x := ⟨_, List.getElem?_eq_getElem hlt⟩
      have hg := map_get (f := TSegment.en) hx
      have ht := lt_true (f := TSegment.en) hlt
      have hn := next_ix hlt (by omega)
      have hln := pcaTo_len f i
      obtain ⟨h1, h2⟩ := pcaTo_map f i
      repeat' ((first
        | ((with_reducible show AL ..); first | refine AL.any ?_ | refine AL.any (h := POp.k Tryz.func181 (hc := parts_i f (by assumption))) ?_ | refine AL.U ?_ | refine AL.F ?_ | refine AL.T ?_ | refine AL.W ?_ | refine AL.nil ?_)
        | ((with_reducible show DL ..); first | refine DL.any ?_ | refine DL.U ?_ | refine DL.F ?_ | refine DL.T ?_ | refine DL.W ?_ | refine DL.nil ?_)
        | ((with_reducible show AW ..); first | refine AW.seq ?_ | refine AW.region ?_ | refine AW.skip ?_ | refine AW.dr (id := 2) 11 ?_ | refine AW.cT ?_ | refine AW.cF ?_ | (refine AW.c2 ?_ ?_ <;> (intro h; try simp only [bT, bF] at h)) | refine AW.block ?_ | refine AW.exit ?_ | refine AW.ret ?_)
        | with_reducible refine ifP ?_
        | with_reducible refine ifN ?_) <;> (try dsimp only))
      all_goals first
        | (refine ⟨i + 1, _, hlt, by omega, ?_, by rw [h1, h2] <;> rfl, ?_, ?_⟩; (focus ((repeat' (first | exact Wk.nil | refine Wk.any ?_ | (with_reducible refine Wk.same ?_) | refine Wk.of ?_ ?_)) <;> (simp_all))); (focus ((repeat' (first | exact Fits.nil _ | refine Fits.cons ?_ ?_ | exact Fits.any _ | exact Fits.c _ _ | exact Fits.own (by rfl) | exact Fits.ref (by rfl) | exact Fits.clo (by assumption) | exact Fits.clo (clo_of (by rfl)) | exact Fits.clo (clo_fn _))))); (focus (exact fitsM_cons (clo_one f.clo_en) (fitsM_cons (clo_one box0.clo_en) (fitsM_cons (clo_rows TPiece.clo_en) (FitsM.nil _))))))
    · have ht := lt_false (f := TSegment.en) hlt
      have e : i = (partsOf f).length := by omega
      subst e
      try rw [List.take_length]
      repeat' ((first
        | ((with_reducible show AL ..); first | refine AL.any ?_ | refine AL.any (h := POp.k Tryz.func181 (hc := parts_i f (by assumption))) ?_ | refine AL.U ?_ | refine AL.F ?_ | refine AL.T ?_ | refine AL.W ?_ | refine AL.nil ?_)
        | ((with_reducible show DL ..); first | refine DL.any ?_ | refine DL.U ?_ | refine DL.F ?_ | refine DL.T ?_ | refine DL.W ?_ | refine DL.nil ?_)
        | ((with_reducible show AW ..); first | refine AW.seq ?_ | refine AW.region ?_ | refine AW.skip ?_ | (refine AW.freezeRet (t := 6) (id := 2) rfl rfl rfl rfl (clo_rows TPiece.clo_en) ?_; (try simp only [List.take_length]); try dsimp only [dput, List.set, cond_true, cond_false, Nat.zero_add, Nat.add_zero, Nat.reduceAdd, splice, List.take, List.drop, List.length, List.nil_append, List.cons_append, List.append, TPoint.en, TSegment.en, TBox.en, TFeature.en, TMeet.en, TPlace.en, TCover.en, TLabel.en, TPiece.en, TLevel.en, TChart.en, TReason.en, TEdit.en, TEntry.en, TEdition.en, TListing.en, TAtlas.en, TEvent.en, TWindow.en]) | refine AW.dr (id := 2) 11 ?_ | refine AW.cT ?_ | refine AW.cF ?_ | (refine AW.c2 ?_ ?_ <;> (intro h; try simp only [bT, bF] at h)) | refine AW.block ?_ | refine AW.exit ?_ | refine AW.ret ?_)
        | with_reducible refine ifP ?_
        | with_reducible refine ifN ?_) <;> (try dsimp only))
      all_goals exact Fin.one rfl (RV.tmp (by rfl)) (clo_list TPiece.clo_en) ⟨rfl, rfl⟩

theorem pca_i_t (f : TFeature) (hgd : f.gd) (hk : (f.kind == 1) = true) : VCalls Tryz.prog 165 [.agg f.en, .agg box0.en, B true] (fun r M => r = .ro 2 ((pca f).map TPiece.en) ∧ M = []) := by
  refine VCalls.bodyE Tryz.func165 rfl 51 rfl (fun E hE => ?_)
  simp only [List.reduceReplicate, List.cons_append, List.nil_append]
  have hclP : Clo (.ro 2 (f.points.map TPoint.en)) := clo_list TPoint.clo_en
  have hclS : Clo (.ro 4 ((partsOf f).map TSegment.en)) := clo_list TSegment.clo_en
  have hcle : Clo (.agg f.en) := Clo.agg f.clo_en
  have hpl := partsOf_le f
  have hb0 := pca_cases_t hk
  repeat' ((first
    | ((with_reducible show AL ..); first | refine AL.any ?_ | refine AL.any (h := POp.k Tryz.func181 (hc := parts_i f (by assumption))) ?_ | refine AL.U ?_ | refine AL.F ?_ | refine AL.T ?_ | refine AL.W ?_ | refine AL.nil ?_)
    | ((with_reducible show DL ..); first | refine DL.any ?_ | refine DL.U ?_ | refine DL.F ?_ | refine DL.T ?_ | refine DL.W ?_ | refine DL.nil ?_)
    | ((with_reducible show AW ..); first | refine AW.seq ?_ | refine AW.region ?_ | refine AW.skip ?_ | (refine AW.loopX hE (fun i : Nat => [.any, .any, B true, .ref 0 0 5 0 0, .ref 1 0 4 0 0, .any, .any, .own 2 (pcaTo f i).length, .any, .any, .any, .any, .any, .any, .any, .any, .any, .any, .any, .any, .any, .any, .any, .any, .any, .any, .any, .any, .any, .any, .any, .any, .ro 4 ((partsOf f).map TSegment.en), I (((partsOf f).map TSegment.en).length : Int), I (i : Int), .any, .any, .any, .any, .any, .any, .any, .any, .any, .any, .any, .any, .any, .any, .any, .any, .any, .any, .any]) (fun i => [some ⟨69, 5, 0, true, [f.en]⟩, some ⟨181, 4, 0, true, [box0.en]⟩, some ⟨166, 2, (pcaTo f i).length, false, (pcaTo f i).map TPiece.en⟩]) (fun i => (partsOf f).length - i) (fun i => i ≤ (partsOf f).length) 0 _ (by simp) ?_ (by first | rfl | (rw [hb0]; rfl)) ?_ ?_ ?_) | refine AW.dr (id := 2) 11 ?_ | refine AW.cT ?_ | refine AW.cF ?_ | (refine AW.c2 ?_ ?_ <;> (intro h; try simp only [bT, bF] at h)) | refine AW.block ?_ | refine AW.exit ?_ | refine AW.ret ?_)
    | with_reducible refine ifP ?_
    | with_reducible refine ifN ?_) <;> (try dsimp only))
  rotate_left 1
  · (repeat' (first | exact Fits.nil _ | refine Fits.cons ?_ ?_ | exact Fits.any _ | exact Fits.c _ _ | exact Fits.own (by rfl) | exact Fits.ref (by rfl) | exact Fits.clo (by assumption) | exact Fits.clo (clo_of (by rfl)) | exact Fits.clo (clo_fn _)))
  · exact fitsM_cons (clo_one f.clo_en) (fitsM_cons (clo_one box0.clo_en) (fitsM_cons (clo_rows TPiece.clo_en) (FitsM.nil _)))
  rotate_right 1
  · (repeat' (first | exact Wk.nil | refine Wk.any ?_ | (with_reducible refine Wk.same ?_) | refine Wk.of ?_ ?_)) <;> first | rfl | (simp_all)
  · intro i hi
    have hclP : Clo (.ro 2 (f.points.map TPoint.en)) := clo_list TPoint.clo_en
    have hclS : Clo (.ro 4 ((partsOf f).map TSegment.en)) := clo_list TSegment.clo_en
    have hcle : Clo (.agg f.en) := Clo.agg f.clo_en
    have hpl := partsOf_le f
    by_cases hlt : i < (partsOf f).length
    · obtain ⟨x, hx⟩ : ∃ x, (partsOf f)[i]? = some x := ⟨_, List.getElem?_eq_getElem hlt⟩
      have hg := map_get (f := TSegment.en) hx
      have ht := lt_true (f := TSegment.en) hlt
      have hn := next_ix hlt (by omega)
      have hln := pcaTo_len f i
      obtain ⟨h1, h2⟩ := pcaTo_map f i
      repeat' ((first
        | ((with_reducible show AL ..); first | refine AL.any ?_ | refine AL.any (h := POp.k Tryz.func181 (hc := parts_i f (by assumption))) ?_ | refine AL.U ?_ | refine AL.F ?_ | refine AL.T ?_ | refine AL.W ?_ | refine AL.nil ?_)
        | ((with_reducible show DL ..); first | refine DL.any ?_ | refine DL.U ?_ | refine DL.F ?_ | refine DL.T ?_ | refine DL.W ?_ | refine DL.nil ?_)
        | ((with_reducible show AW ..); first | refine AW.seq ?_ | refine AW.region ?_ | refine AW.skip ?_ | refine AW.dr (id := 2) 11 ?_ | refine AW.cT ?_ | refine AW.cF ?_ | (refine AW.c2 ?_ ?_ <;> (intro h; try simp only [bT, bF] at h)) | refine AW.block ?_ | refine AW.exit ?_ | refine AW.ret ?_)
        | with_reducible refine ifP ?_
        | with_reducible refine ifN ?_) <;> (try dsimp only))
      all_goals first
        | (refine ⟨i + 1, _, hlt, by omega, ?_, by rw [h1, h2] <;> rfl, ?_, ?_⟩; (focus ((repeat' (first | exact Wk.nil | refine Wk.any ?_ | (with_reducible refine Wk.same ?_) | refine Wk.of ?_ ?_)) <;> (simp_all))); (focus ((repeat' (first | exact Fits.nil _ | refine Fits.cons ?_ ?_ | exact Fits.any _ | exact Fits.c _ _ | exact Fits.own (by rfl) | exact Fits.ref (by rfl) | exact Fits.clo (by assumption) | exact Fits.clo (clo_of (by rfl)) | exact Fits.clo (clo_fn _))))); (focus (exact fitsM_cons (clo_one f.clo_en) (fitsM_cons (clo_one box0.clo_en) (fitsM_cons (clo_rows TPiece.clo_en) (FitsM.nil _))))))
    · have ht := lt_false (f := TSegment.en) hlt
      have e : i = (partsOf f).length := by omega
      subst e
      try rw [List.take_length]
      repeat' ((first
        | ((with_reducible show AL ..); first | refine AL.any ?_ | refine AL.any (h := POp.k Tryz.func181 (hc := parts_i f (by assumption))) ?_ | refine AL.U ?_ | refine AL.F ?_ | refine AL.T ?_ | refine AL.W ?_ | refine AL.nil ?_)
        | ((with_reducible show DL ..); first | refine DL.any ?_ | refine DL.U ?_ | refine DL.F ?_ | refine DL.T ?_ | refine DL.W ?_ | refine DL.nil ?_)
        | ((with_reducible show AW ..); first | refine AW.seq ?_ | refine AW.region ?_ | refine AW.skip ?_ | (refine AW.freezeRet (t := 6) (id := 2) rfl rfl rfl rfl (clo_rows TPiece.clo_en) ?_; (try simp only [List.take_length]); try dsimp only [dput, List.set, cond_true, cond_false, Nat.zero_add, Nat.add_zero, Nat.reduceAdd, splice, List.take, List.drop, List.length, List.nil_append, List.cons_append, List.append, TPoint.en, TSegment.en, TBox.en, TFeature.en, TMeet.en, TPlace.en, TCover.en, TLabel.en, TPiece.en, TLevel.en, TChart.en, TReason.en, TEdit.en, TEntry.en, TEdition.en, TListing.en, TAtlas.en, TEvent.en, TWindow.en]) | refine AW.dr (id := 2) 11 ?_ | refine AW.cT ?_ | refine AW.cF ?_ | (refine AW.c2 ?_ ?_ <;> (intro h; try simp only [bT, bF] at h)) | refine AW.block ?_ | refine AW.exit ?_ | refine AW.ret ?_)
        | with_reducible refine ifP ?_
        | with_reducible refine ifN ?_) <;> (try dsimp only))
      all_goals exact Fin.one rfl (RV.tmp (by rfl)) (clo_list TPiece.clo_en) ⟨rfl, rfl⟩

theorem pca_i (f : TFeature) (hgd : f.gd) : VCalls Tryz.prog 165 [.agg f.en, .agg box0.en, B true] (fun r M => r = .ro 2 ((pca f).map TPiece.en) ∧ M = []) := by
  cases hk : (f.kind == 1)
  · exact pca_i_f f hgd hk
  · exact pca_i_t f hgd hk
theorem all_i_f (l : List TFeature) (hl : l.length ≤ 1048576) (hp : ∀ x ∈ l, x.gd) (hS : isSource l = false) : VCalls Tryz.prog 145 [.ro 5 (l.map TFeature.en)] (fun r M => r = .ro 2 ((allPc l).map TPiece.en) ∧ M = []) := by
  refine VCalls.body Tryz.func145 rfl 23 rfl (fun E => ?_)
  simp only [List.reduceReplicate, List.cons_append, List.nil_append]
  have hclo : Clo (.ro 5 (l.map TFeature.en)) := clo_list TFeature.clo_en
  repeat' ((first
    | ((with_reducible show AL ..); first | refine AL.any ?_ | refine AL.any (h := POp.k Tryz.func135 (hc := isSource_i _ (by assumption) (by assumption))) ?_ | refine AL.any (h := POp.k Tryz.func165 (hc := pcs_i _ _ (by assumption) (by assumption))) ?_ | refine AL.nil ?_)
    | ((with_reducible show AW ..); first | refine AW.seq ?_ | refine AW.region ?_ | refine AW.skip ?_ | (refine AW.freezeRet (t := 2) (id := 0) rfl rfl rfl rfl clo_rows_nil ?_; (try simp only [List.take_length]); try dsimp only [dput, List.set, cond_true, cond_false, Nat.zero_add, Nat.add_zero, Nat.reduceAdd, splice, List.take, List.drop, List.length, List.nil_append, List.cons_append, List.append, TPoint.en, TSegment.en, TBox.en, TFeature.en, TMeet.en, TPlace.en, TCover.en, TLabel.en, TPiece.en, TLevel.en, TChart.en, TReason.en, TEdit.en, TEntry.en, TEdition.en, TListing.en, TAtlas.en, TEvent.en, TWindow.en]) | refine AW.cT ?_ | refine AW.cF ?_ | (refine AW.c2 ?_ ?_ <;> (intro h; try simp only [bT, bF] at h)) | refine AW.block ?_ | refine AW.exit ?_ | refine AW.ret ?_)
    | with_reducible refine ifP ?_
    | with_reducible refine ifN ?_) <;> (try dsimp only))
  all_goals exact Fin.one rfl (RV.tmp (by rfl)) (Clo.ro clo_rows_nil) ⟨by rw [allPc_f hS]; rfl, rfl⟩

theorem all_i_t (l : List TFeature) (hl : l.length ≤ 1048576) (hp : ∀ x ∈ l, x.gd) (hS : isSource l = true) : VCalls Tryz.prog 145 [.ro 5 (l.map TFeature.en)] (fun r M => r = .ro 2 ((allPc l).map TPiece.en) ∧ M = []) := by
  refine VCalls.bodyE Tryz.func145 rfl 23 rfl (fun E hE => ?_)
  simp only [List.reduceReplicate, List.cons_append, List.nil_append]
  have hclo : Clo (.ro 5 (l.map TFeature.en)) := clo_list TFeature.clo_en
  repeat' ((first
    | ((with_reducible show AL ..); first | refine AL.any ?_ | refine AL.any (h := POp.k Tryz.func135 (hc := isSource_i _ (by assumption) (by assumption))) ?_ | refine AL.any (h := POp.k Tryz.func165 (hc := pca_i x (by assumption))) ?_ | refine AL.nil ?_)
    | ((with_reducible show AW ..); first | refine AW.seq ?_ | refine AW.region ?_ | refine AW.skip ?_ | (refine AW.loopD hE (fun i : Nat => [.ro 5 (l.map TFeature.en), .any, .any, .own 0 i, .any, .any, .any, .any, .any, .any, .any, .ro 5 (l.map TFeature.en), I ((l.map TFeature.en).length : Int), I (i : Int), .any, .any, .any, .any, .any, .any, .any, .any, .any, .any]) (fun i => [some ⟨166, 2, i, false, (allTo l i).map TPiece.en⟩]) (fun i => l.length - i) (fun i => i ≤ l.length) 0 (by simp) ?_ (by first | rfl | (simp [fil_zero]; done)) ?_) | refine AW.cT ?_ | refine AW.cF ?_ | (refine AW.c2 ?_ ?_ <;> (intro h; try simp only [bT, bF] at h)) | refine AW.block ?_ | refine AW.exit ?_ | refine AW.ret ?_)
    | with_reducible refine ifP ?_
    | with_reducible refine ifN ?_) <;> (try dsimp only))
  · (repeat' (first | exact Wk.nil | refine Wk.any ?_ | (with_reducible refine Wk.same ?_) | refine Wk.of ?_ ?_)) <;> first | rfl | (rfl)
  · intro i hi
    have hclo : Clo (.ro 5 (l.map TFeature.en)) := clo_list TFeature.clo_en
    by_cases hlt : i < l.length
    · obtain ⟨x, hx⟩ : ∃ x, l[i]? = some x := ⟨_, List.getElem?_eq_getElem hlt⟩
      have hg := map_get (f := TFeature.en) hx
      have ht := lt_true (f := TFeature.en) hlt
      have hn := next_ix hlt (by omega)
      have hgx := hp x (List.mem_of_getElem? hx)
      have hclQ : Clo (.ro 2 ((pca x).map TPiece.en)) := clo_list TPiece.clo_en
      have hclP : Clo (.ro 2 (x.points.map TPoint.en)) := clo_list TPoint.clo_en
      have hcle : Clo (.agg x.en) := Clo.agg x.clo_en
      have hm := allTo_map hx
      have hln := allTo_len l i (by omega)
      have hpl := pca_len x
      repeat' ((first
        | ((with_reducible show AL ..); first | refine AL.any ?_ | refine AL.any (h := POp.k Tryz.func135 (hc := isSource_i _ (by assumption) (by assumption))) ?_ | refine AL.any (h := POp.k Tryz.func165 (hc := pca_i x (by assumption))) ?_ | refine AL.nil ?_)
        | ((with_reducible show AW ..); first | refine AW.seq ?_ | refine AW.region ?_ | refine AW.skip ?_ | refine AW.cT ?_ | refine AW.cF ?_ | (refine AW.c2 ?_ ?_ <;> (intro h; try simp only [bT, bF] at h)) | refine AW.block ?_ | refine AW.exit ?_ | refine AW.ret ?_)
        | with_reducible refine ifP ?_
        | with_reducible refine ifN ?_) <;> (try dsimp only))
      all_goals first
        | (refine ⟨i + 1, _, hlt, by omega, ?_, by rw [hm] <;> rfl, ?_, ?_⟩; (focus ((repeat' (first | exact Wk.nil | refine Wk.any ?_ | (with_reducible refine Wk.same ?_) | refine Wk.of ?_ ?_)) <;> (simp_all))); (focus ((repeat' (first | exact Fits.nil _ | refine Fits.cons ?_ ?_ | exact Fits.any _ | exact Fits.c _ _ | exact Fits.own (by rfl) | exact Fits.ref (by rfl) | exact Fits.clo (by assumption) | exact Fits.clo (clo_of (by rfl)) | exact Fits.clo (clo_fn _))))); (focus (exact fits_row (clo_rows TPiece.clo_en))))
    · have ht := lt_false (f := TFeature.en) hlt
      have e : i = l.length := by omega
      subst e
      try rw [List.take_length]
      repeat' ((first
        | ((with_reducible show AL ..); first | refine AL.any ?_ | refine AL.any (h := POp.k Tryz.func135 (hc := isSource_i _ (by assumption) (by assumption))) ?_ | refine AL.any (h := POp.k Tryz.func165 (hc := pca_i x (by assumption))) ?_ | refine AL.nil ?_)
        | ((with_reducible show AW ..); first | refine AW.seq ?_ | refine AW.region ?_ | refine AW.skip ?_ | (refine AW.freezeRet (t := 2) (id := 0) rfl rfl rfl rfl (clo_rows TPiece.clo_en) ?_; (try simp only [List.take_length]); try dsimp only [dput, List.set, cond_true, cond_false, Nat.zero_add, Nat.add_zero, Nat.reduceAdd, splice, List.take, List.drop, List.length, List.nil_append, List.cons_append, List.append, TPoint.en, TSegment.en, TBox.en, TFeature.en, TMeet.en, TPlace.en, TCover.en, TLabel.en, TPiece.en, TLevel.en, TChart.en, TReason.en, TEdit.en, TEntry.en, TEdition.en, TListing.en, TAtlas.en, TEvent.en, TWindow.en]) | refine AW.cT ?_ | refine AW.cF ?_ | (refine AW.c2 ?_ ?_ <;> (intro h; try simp only [bT, bF] at h)) | refine AW.block ?_ | refine AW.exit ?_ | refine AW.ret ?_)
        | with_reducible refine ifP ?_
        | with_reducible refine ifN ?_) <;> (try dsimp only))
      all_goals exact Fin.one rfl (RV.tmp (by rfl)) (clo_list TPiece.clo_en) ⟨by rw [allPc_t hS], rfl⟩

theorem all_i (l : List TFeature) (hl : l.length ≤ 1048576) (hp : ∀ x ∈ l, x.gd) : VCalls Tryz.prog 145 [.ro 5 (l.map TFeature.en)] (fun r M => r = .ro 2 ((allPc l).map TPiece.en) ∧ M = []) := by
  cases hS : isSource l
  · exact all_i_f l hl hp hS
  · exact all_i_t l hl hp hS
theorem all_s (l : List TFeature) (hl : l.length ≤ 1048576) (hp : ∀ x ∈ l, x.gd) : VCalls Tryz.prog 139 [.ro 5 (l.map TFeature.en)] (fun r M => r = .ro 2 ((allPc l).map TPiece.en) ∧ M = []) := by
  refine VCalls.bodyE Tryz.func139 rfl 45 rfl (fun E hE => ?_)
  simp only [List.reduceReplicate, List.cons_append, List.nil_append]
  have hclo : Clo (.ro 5 (l.map TFeature.en)) := clo_list TFeature.clo_en
  have hclo : Clo (.ro 5 (l.map TFeature.en)) := clo_list TFeature.clo_en
  repeat' ((first
    | ((with_reducible show AL ..); first | refine AL.any ?_ | refine AL.any (h := POp.k Tryz.func160 (hc := parts_s x (by assumption))) ?_ | refine AL.U ?_ | refine AL.F ?_ | refine AL.T ?_ | refine AL.T (h := POp.k Tryz.func133 (hc := isSource_s _ (by assumption) (by assumption))) ?_ | refine AL.W ?_ | refine AL.W (h := fun h => by (try rw [h]); exact POp.k Tryz.func133 (hc := isSource_s _ (by assumption) (by assumption))) ?_ | refine AL.nil ?_)
    | ((with_reducible show AW ..); first | refine AW.seq ?_ | refine AW.region ?_ | refine AW.skip ?_ | (refine AW.loopD hE (fun i : Nat => [.ro 5 (l.map TFeature.en), .any, .any, .own 0 (allTo l i).length, I (i : Int), .any, .any, .any, .any, .any, .any, .any, .any, .any, .any, .any, .any, .any, .any, .any, .any, .any, .any, .any, .any, .any, .any, .any, .any, .any, .any, .any, .any, .any, .any, .any, .any, .any, .any, .any, .any, .any, .any, .any, .any, .any]) (fun i => [some ⟨166, 2, (allTo l i).length, false, (allTo l i).map TPiece.en⟩]) (fun i => nSrc l - i) (fun i => i ≤ nSrc l) 0 (Nat.zero_le _) ?_ (by first | rfl | (rfl; done)) ?_) | refine AW.cT ?_ | refine AW.cF ?_ | (refine AW.c2 ?_ ?_ <;> (intro h; try simp only [bT, bF] at h)) | refine AW.block ?_ | refine AW.exit ?_ | refine AW.ret ?_)
    | with_reducible refine ifP ?_
    | with_reducible refine ifN ?_) <;> (try dsimp only))
  · (repeat' (first | exact Wk.nil | refine Wk.any ?_ | (with_reducible refine Wk.same ?_) | refine Wk.of ?_ ?_)) <;> first | rfl | (simp; done)
  · intro i hv_i
    have hclo : Clo (.ro 5 (l.map TFeature.en)) := clo_list TFeature.clo_en
    by_cases hlt_i : i < nSrc l
    · skip
      obtain ⟨hS, hN⟩ := nSrc_t hlt_i
      obtain ⟨x, hx⟩ : ∃ x, l[i]? = some x := ⟨_, List.getElem?_eq_getElem (by omega)⟩
      have hgm := map_get (f := TFeature.en) hx
      have ht : (decide ((i : Int) < ((l.map TFeature.en).length : Int)) && isSource l) = true := by rw [hS]; simp; omega
      have hn := next_ix hlt_i (by omega)
      have hclS : Clo (.ro 4 ((partsOf x).map TSegment.en)) := clo_list TSegment.clo_en
      have hln := allTo_len l i (by omega)
      have hpl := nPt_le x
      obtain ⟨e1, e2⟩ := all_next hx
      have hnp : nPt x = if (x.kind == 1) = true then 1 else (partsOf x).length := rfl
      have hgx := hp x (List.mem_of_getElem? hx)
      have hclQ : Clo (.ro 2 ((pca x).map TPiece.en)) := clo_list TPiece.clo_en
      have hclP : Clo (.ro 2 (x.points.map TPoint.en)) := clo_list TPoint.clo_en
      have hcle : Clo (.agg x.en) := Clo.agg x.clo_en
      cases hk : (x.kind == 1)
      all_goals
        repeat' ((first
          | ((with_reducible show AL ..); first | refine AL.any ?_ | refine AL.any (h := POp.k Tryz.func160 (hc := parts_s x (by assumption))) ?_ | refine AL.U ?_ | refine AL.F ?_ | refine AL.T ?_ | refine AL.T (h := POp.k Tryz.func133 (hc := isSource_s _ (by assumption) (by assumption))) ?_ | refine AL.W ?_ | refine AL.W (h := fun h => by (try rw [h]); exact POp.k Tryz.func133 (hc := isSource_s _ (by assumption) (by assumption))) ?_ | refine AL.nil ?_)
          | ((with_reducible show AW ..); first | refine AW.seq ?_ | refine AW.region ?_ | refine AW.skip ?_ | (refine AW.loopD hE (fun k : Nat => [.ro 5 (l.map TFeature.en), .any, .any, .own 0 ((allTo l i).length + k), I (i : Int), I ((nPt x : Nat) : Int), I (k : Int), .any, .any, .any, .any, .any, .any, .any, .any, .any, .any, .any, .any, .any, .any, .any, .any, .any, .any, .any, .any, .any, .any, .any, .any, .any, .any, .any, .any, .any, .any, .any, .any, .any, .any, .any, .any, .any, .any, .any]) (fun k => [some ⟨166, 2, (allTo l i).length + k, false, (allTo l i).map TPiece.en ++ (fpcTo x k).map TPiece.en⟩]) (fun k => nPt x - k) (fun k => k ≤ nPt x) 0 (Nat.zero_le _) ?_ (by first | rfl | (simp [fpcTo]; done)) ?_) | refine AW.cT ?_ | refine AW.cF ?_ | (refine AW.c2 ?_ ?_ <;> (intro h; try simp only [bT, bF] at h)) | refine AW.block ?_ | refine AW.exit ?_ | refine AW.ret ?_)
          | with_reducible refine ifP ?_
          | with_reducible refine ifN ?_) <;> (try dsimp only))
        · (repeat' (first | exact Wk.nil | refine Wk.any ?_ | (with_reducible refine Wk.same ?_) | refine Wk.of ?_ ?_)) <;> first | rfl | (simp_all; done)
        · intro k hv_k
          have hclo : Clo (.ro 5 (l.map TFeature.en)) := clo_list TFeature.clo_en
          by_cases hlt_k : k < nPt x
          · skip
            have htk : decide ((k : Int) < ((nPt x : Nat) : Int)) = true := by simp; omega
            have hnk := next_ix hlt_k (by omega)
            have hm : (allTo l i).map TPiece.en ++ (fpcTo x (k + 1)).map TPiece.en = ((allTo l i).map TPiece.en ++ (fpcTo x k).map TPiece.en) ++ [[I x.id, I (k : Int)]] := by rw [fpcTo_map, List.append_assoc]
            have hfl := fpcTo_len x k
            repeat' ((first
              | ((with_reducible show AL ..); first | refine AL.any ?_ | refine AL.any (h := POp.k Tryz.func160 (hc := parts_s x (by assumption))) ?_ | refine AL.U ?_ | refine AL.F ?_ | refine AL.T ?_ | refine AL.T (h := POp.k Tryz.func133 (hc := isSource_s _ (by assumption) (by assumption))) ?_ | refine AL.W ?_ | refine AL.W (h := fun h => by (try rw [h]); exact POp.k Tryz.func133 (hc := isSource_s _ (by assumption) (by assumption))) ?_ | refine AL.nil ?_)
              | ((with_reducible show AW ..); first | refine AW.seq ?_ | refine AW.region ?_ | refine AW.skip ?_ | refine AW.cT ?_ | refine AW.cF ?_ | (refine AW.c2 ?_ ?_ <;> (intro h; try simp only [bT, bF] at h)) | refine AW.block ?_ | refine AW.exit ?_ | refine AW.ret ?_)
              | with_reducible refine ifP ?_
              | with_reducible refine ifN ?_) <;> (try dsimp only))
            all_goals first
              | (refine ⟨k + 1, _, hlt_k, by omega, ?_, by rw [hm] <;> rfl, ?_, ?_⟩; (focus ((repeat' (first | exact Wk.nil | refine Wk.any ?_ | (with_reducible refine Wk.same ?_) | refine Wk.of ?_ ?_)) <;> (first | rfl | simp_all))); (focus ((repeat' (first | exact Fits.nil _ | refine Fits.cons ?_ ?_ | exact Fits.any _ | exact Fits.c _ _ | exact Fits.own (by rfl) | exact Fits.ref (by rfl) | exact Fits.clo (by assumption) | exact Fits.clo (clo_of (by rfl)) | exact Fits.clo (clo_fn _))))); (focus (refine fits_row ?_; exact clo_rows_app (clo_rows TPiece.clo_en) (clo_rows TPiece.clo_en))))
          · have e_k : k = nPt x := by omega
            have htk : decide ((k : Int) < ((nPt x : Nat) : Int)) = false := by simp; omega
            subst e_k
            repeat' ((first
              | ((with_reducible show AL ..); first | refine AL.any ?_ | refine AL.any (h := POp.k Tryz.func160 (hc := parts_s x (by assumption))) ?_ | refine AL.U ?_ | refine AL.F ?_ | refine AL.T ?_ | refine AL.T (h := POp.k Tryz.func133 (hc := isSource_s _ (by assumption) (by assumption))) ?_ | refine AL.W ?_ | refine AL.W (h := fun h => by (try rw [h]); exact POp.k Tryz.func133 (hc := isSource_s _ (by assumption) (by assumption))) ?_ | refine AL.nil ?_)
              | ((with_reducible show AW ..); first | refine AW.seq ?_ | refine AW.region ?_ | refine AW.skip ?_ | refine AW.cT ?_ | refine AW.cF ?_ | (refine AW.c2 ?_ ?_ <;> (intro h; try simp only [bT, bF] at h)) | refine AW.block ?_ | refine AW.exit ?_ | refine AW.ret ?_)
              | with_reducible refine ifP ?_
              | with_reducible refine ifN ?_) <;> (try dsimp only))
            all_goals first
              | (refine ⟨i + 1, _, hlt_i, by omega, ?_, by rw [← e1, ← e2] <;> rfl, ?_, ?_⟩; (focus ((repeat' (first | exact Wk.nil | refine Wk.any ?_ | (with_reducible refine Wk.same ?_) | refine Wk.of ?_ ?_)) <;> (first | (rw [← e2]; done) | simp_all))); (focus ((repeat' (first | exact Fits.nil _ | refine Fits.cons ?_ ?_ | exact Fits.any _ | exact Fits.c _ _ | exact Fits.own (by rfl) | exact Fits.ref (by rfl) | exact Fits.clo (by assumption) | exact Fits.clo (clo_of (by rfl)) | exact Fits.clo (clo_fn _))))); (focus (exact fits_row (clo_rows TPiece.clo_en))))
    · have e_i : i = nSrc l := by omega
      have ht : (decide ((i : Int) < ((l.map TFeature.en).length : Int)) && isSource l) = false := by
        rw [e_i]
        unfold nSrc
        cases hS : isSource l
        · simp
        · simp
      subst e_i
      repeat' ((first
        | ((with_reducible show AL ..); first | refine AL.any ?_ | refine AL.any (h := POp.k Tryz.func160 (hc := parts_s x (by assumption))) ?_ | refine AL.U ?_ | refine AL.F ?_ | refine AL.T ?_ | refine AL.T (h := POp.k Tryz.func133 (hc := isSource_s _ (by assumption) (by assumption))) ?_ | refine AL.W ?_ | refine AL.W (h := fun h => by (try rw [h]); exact POp.k Tryz.func133 (hc := isSource_s _ (by assumption) (by assumption))) ?_ | refine AL.nil ?_)
        | ((with_reducible show AW ..); first | refine AW.seq ?_ | refine AW.region ?_ | refine AW.skip ?_ | (refine AW.freezeRet (t := 2) (id := 0) rfl rfl rfl rfl (clo_rows TPiece.clo_en) ?_; (try simp only [List.take_length]); try dsimp only [dput, List.set, cond_true, cond_false, Nat.zero_add, Nat.add_zero, Nat.reduceAdd, splice, List.take, List.drop, List.length, List.nil_append, List.cons_append, List.append, TPoint.en, TSegment.en, TBox.en, TFeature.en, TMeet.en, TPlace.en, TCover.en, TLabel.en, TPiece.en, TLevel.en, TChart.en, TReason.en, TEdit.en, TEntry.en, TEdition.en, TListing.en, TAtlas.en, TEvent.en, TWindow.en]) | refine AW.cT ?_ | refine AW.cF ?_ | (refine AW.c2 ?_ ?_ <;> (intro h; try simp only [bT, bF] at h)) | refine AW.block ?_ | refine AW.exit ?_ | refine AW.ret ?_)
        | with_reducible refine ifP ?_
        | with_reducible refine ifN ?_) <;> (try dsimp only))
      all_goals first
        | exact Fin.one rfl (RV.tmp (by rfl)) (clo_list TPiece.clo_en) ⟨by rw [allPc_n], rfl⟩

theorem seal_i (b t : Int) (l : List TFeature) (hl : l.length ≤ 1048576) (hp : ∀ x ∈ l, x.gd) : VCalls Tryz.prog 121 [I b, I t, .ro 5 (l.map TFeature.en)] (fun r M => r = I (sealOf b t l) ∧ M = []) := by
  refine VCalls.body Tryz.func121 rfl 13 rfl (fun E => ?_)
  simp only [List.reduceReplicate, List.cons_append, List.nil_append]
  have hclo : Clo (.ro 5 (l.map TFeature.en)) := clo_list TFeature.clo_en
  have hclA : Clo (.ro 2 ((allPc l).map TPiece.en)) := clo_list TPiece.clo_en
  have hclD : Clo (.ro 1 ((dig l (allPc l)).map enI)) := clo_list clo_enI
  have hal := allPc_len l
  have hdl := dig_len l (allPc l)
  repeat' ((first
    | ((with_reducible show AL ..); first | refine AL.any ?_ | refine AL.any (h := POp.kv Tryz.func143 (hc := hash_i' ([b, t] ++ dig l (allPc l)) (seal_rows b t (dig l (allPc l))) (seal_len b t l))) ?_ | refine AL.any (h := POp.k Tryz.func144 (hc := dig_i l (allPc l) (by assumption) (by assumption) (by have := allPc_len l; omega) (allPc_is l))) ?_ | refine AL.any (h := POp.k Tryz.func145 (hc := all_i _ (by assumption) (by assumption))) ?_ | refine AL.nil ?_)
    | ((with_reducible show AW ..); first | refine AW.seq ?_ | refine AW.region ?_ | refine AW.skip ?_ | refine AW.block ?_ | refine AW.exit ?_ | refine AW.ret ?_)) <;> (try dsimp only))
  all_goals exact Fin.one rfl (RV.tmp (by rfl)) (clo_c _) ⟨by rfl, rfl⟩

theorem seal_s (b t : Int) (l : List TFeature) (hl : l.length ≤ 1048576) (hp : ∀ x ∈ l, x.gd) : VCalls Tryz.prog 118 [I b, I t, .ro 5 (l.map TFeature.en)] (fun r M => r = I (sealOf b t l) ∧ M = []) := by
  refine VCalls.bodyE Tryz.func118 rfl 39 rfl (fun E hE => ?_)
  simp only [List.reduceReplicate, List.cons_append, List.nil_append]
  have hclo : Clo (.ro 5 (l.map TFeature.en)) := clo_list TFeature.clo_en
  have hclA : Clo (.ro 2 ((allPc l).map TPiece.en)) := clo_list TPiece.clo_en
  have hclD : Clo (.ro 1 ((dig l (allPc l)).map enI)) := clo_list clo_enI
  have hal := allPc_len l
  have hdl := dig_len l (allPc l)
  repeat' ((first
    | ((with_reducible show AL ..); first | refine AL.any ?_ | refine AL.any (h := POp.k Tryz.func139 (hc := all_s _ (by assumption) (by assumption))) ?_ | refine AL.any (h := POp.kv Tryz.func142 (hc := hash_s' (sealTo b t l (allPc l) (allPc l).length) rfl (sealTo_len b t l))) ?_ | refine AL.nil ?_)
    | ((with_reducible show DL ..); first | refine DL.any ?_ | refine DL.any (h := POp.k Tryz.func140 (hc := pd_s y x.part (by assumption))) ?_ | refine DL.any (h := POp.k Tryz.func141 (hc := find_s l x.id (by assumption))) ?_ | refine DL.nil ?_)
    | ((with_reducible show DLM ..); first | refine DLM.any ?_ | refine DLM.mk ?_ | refine DLM.any (h := fun Y => POp.k Tryz.func140 (hc := pd_s y x.part (by assumption))) ?_ | refine DLM.any (h := fun Y => POp.k Tryz.func141 (hc := find_s l x.id (by assumption))) ?_ | refine DLM.nil ?_)
    | ((with_reducible show AW ..); first | refine AW.seq ?_ | refine AW.region ?_ | refine AW.skip ?_ | (refine AW.loopD hE (fun i : Nat => [.any, .any, .ro 5 (l.map TFeature.en), .any, .any, .any, .any, .own 0 i, .ro 2 ((allPc l).map TPiece.en), I (i : Int), .any, .any, .any, .any, .any, .any, .any, .any, .any, .any, .any, .any, .any, .any, .any, .any, .any, .any, .any, .any, .any, .any, .any, .any, .any, .any, .any, .any, .any, .any, .any, .any]) (fun i => [some ⟨3, 1, i, false, (sealTo b t l (allPc l) i).map enI⟩]) (fun i => (allPc l).length - i) (fun i => i ≤ (allPc l).length) 0 (by simp) ?_ (by first | rfl | (simp [fil_zero]; done)) ?_) | refine AW.drM (id := 6) 18 17 ?_ | refine AW.cT ?_ | refine AW.cF ?_ | (refine AW.c2 ?_ ?_ <;> (intro h; try simp only [bT, bF] at h)) | refine AW.block ?_ | refine AW.exit ?_ | refine AW.ret ?_)
    | with_reducible refine ifP ?_
    | with_reducible refine ifN ?_) <;> (try dsimp only))
  · (repeat' (first | exact Wk.nil | refine Wk.any ?_ | (with_reducible refine Wk.same ?_) | refine Wk.of ?_ ?_)) <;> first | rfl | (rfl)
  · intro i hi
    have hclo : Clo (.ro 5 (l.map TFeature.en)) := clo_list TFeature.clo_en
    have hclA : Clo (.ro 2 ((allPc l).map TPiece.en)) := clo_list TPiece.clo_en
    have hclD : Clo (.ro 1 ((dig l (allPc l)).map enI)) := clo_list clo_enI
    have hal := allPc_len l
    have hdl := dig_len l (allPc l)
    by_cases hlt : i < (allPc l).length
    · obtain ⟨x, hx⟩ : ∃ x, (allPc l)[i]? = some x := ⟨_, List.getElem?_eq_getElem hlt⟩
      have hg := map_get (f := TPiece.en) hx
      have ht := lt_true (f := TPiece.en) hlt
      have hn := next_ix hlt (by omega)
      obtain ⟨y, hym, hye, hy0, hyg⟩ := pc_at (allPc_is l) hx
      have hgy := hp y hym
      have hm := sealTo_succ (b := b) (t := t) (l := l) hx
      rw [hye] at hm
      have hln := sealTo_lt b t l i
      have hclY : Clo (.agg y.en) := Clo.agg y.clo_en
      have hclP : Clo (.ro 2 (y.points.map TPoint.en)) := clo_list TPoint.clo_en
      repeat' ((first
        | ((with_reducible show AL ..); first | refine AL.any ?_ | refine AL.any (h := POp.k Tryz.func139 (hc := all_s _ (by assumption) (by assumption))) ?_ | refine AL.any (h := POp.kv Tryz.func142 (hc := hash_s' (sealTo b t l (allPc l) (allPc l).length) rfl (sealTo_len b t l))) ?_ | refine AL.nil ?_)
        | ((with_reducible show DL ..); first | refine DL.any ?_ | refine DL.any (h := POp.k Tryz.func140 (hc := pd_s y x.part (by assumption))) ?_ | refine DL.any (h := POp.k Tryz.func141 (hc := find_s l x.id (by assumption))) ?_ | refine DL.nil ?_)
        | ((with_reducible show DLM ..); first | refine DLM.any ?_ | refine DLM.mk ?_ | refine DLM.any (h := fun Y => POp.k Tryz.func140 (hc := pd_s y x.part (by assumption))) ?_ | refine DLM.any (h := fun Y => POp.k Tryz.func141 (hc := find_s l x.id (by assumption))) ?_ | refine DLM.nil ?_)
        | ((with_reducible show AW ..); first | refine AW.seq ?_ | refine AW.region ?_ | refine AW.skip ?_ | refine AW.drM (id := 6) 18 17 ?_ | refine AW.cT ?_ | refine AW.cF ?_ | (refine AW.c2 ?_ ?_ <;> (intro h; try simp only [bT, bF] at h)) | refine AW.block ?_ | refine AW.exit ?_ | refine AW.ret ?_)
        | with_reducible refine ifP ?_
        | with_reducible refine ifN ?_) <;> (try dsimp only))
      all_goals first
        | (refine ⟨i + 1, _, hlt, by omega, ?_, by rw [hm] <;> rfl, ?_, ?_⟩; (focus ((repeat' (first | exact Wk.nil | refine Wk.any ?_ | (with_reducible refine Wk.same ?_) | refine Wk.of ?_ ?_)) <;> (simp_all))); (focus ((repeat' (first | exact Fits.nil _ | refine Fits.cons ?_ ?_ | exact Fits.any _ | exact Fits.c _ _ | exact Fits.own (by rfl) | exact Fits.ref (by rfl) | exact Fits.clo (by assumption) | exact Fits.clo (clo_of (by rfl)) | exact Fits.clo (clo_fn _))))); (focus (exact fits_row (clo_rows clo_enI))))
    · have ht := lt_false (f := TPiece.en) hlt
      have e : i = (allPc l).length := by omega
      subst e
      try rw [List.take_length]
      repeat' ((first
        | ((with_reducible show AL ..); first | refine AL.any ?_ | refine AL.any (h := POp.k Tryz.func139 (hc := all_s _ (by assumption) (by assumption))) ?_ | refine AL.any (h := POp.kv Tryz.func142 (hc := hash_s' (sealTo b t l (allPc l) (allPc l).length) rfl (sealTo_len b t l))) ?_ | refine AL.nil ?_)
        | ((with_reducible show DL ..); first | refine DL.any ?_ | refine DL.any (h := POp.k Tryz.func140 (hc := pd_s y x.part (by assumption))) ?_ | refine DL.any (h := POp.k Tryz.func141 (hc := find_s l x.id (by assumption))) ?_ | refine DL.nil ?_)
        | ((with_reducible show DLM ..); first | refine DLM.any ?_ | refine DLM.mk ?_ | refine DLM.any (h := fun Y => POp.k Tryz.func140 (hc := pd_s y x.part (by assumption))) ?_ | refine DLM.any (h := fun Y => POp.k Tryz.func141 (hc := find_s l x.id (by assumption))) ?_ | refine DLM.nil ?_)
        | ((with_reducible show AW ..); first | refine AW.seq ?_ | refine AW.region ?_ | refine AW.skip ?_ | refine AW.drM (id := 6) 18 17 ?_ | refine AW.cT ?_ | refine AW.cF ?_ | (refine AW.c2 ?_ ?_ <;> (intro h; try simp only [bT, bF] at h)) | refine AW.block ?_ | refine AW.exit ?_ | refine AW.ret ?_)
        | with_reducible refine ifP ?_
        | with_reducible refine ifN ?_) <;> (try dsimp only))
      all_goals exact Fin.one rfl (RV.tmp (by rfl)) (clo_c _) ⟨by rw [seal_all]; rfl, rfl⟩

end Go.Proofs.YtacbpfbelcdeiaaGreat.Abs
