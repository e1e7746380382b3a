/- The walks of the marks and of their tests. -/
import Derived.Test.YtpffahmmklpifaaGreatWkStep
import Derived.Test.YtpffahmmklpifaaGreatWkOwn
namespace Go.Proofs.YtpffahmmklpifaaGreat.Abs
open Go.Proofs Go.RowKit
set_option linter.unusedVariables false
set_option linter.unusedSimpArgs false
set_option maxRecDepth 100000
set_option maxHeartbeats 2000000
attribute [local irreducible] OpA AL AW DL DLM DLR DLS QOp POp VCalls VCallsI
theorem markText (k : Int) (h0 : 0 ≤ k) (hb : k ≤ 9223372036854775000) : VCalls Tryz.prog 82 [I k] (fun r M => r = S (mtx k) ∧ M = []) := by
  refine VCalls.bodyE Tryz.func82 rfl 19 rfl (fun E hE => ?_)
  simp only [List.reduceReplicate, List.cons_append, List.nil_append]
  repeat' ((first
    | (refine iAL ?_; first | refine AL.any ?_ | refine AL.nil ?_)
    | (refine iAW ?_; first | (refine AW.c0 ?_; constructor) | (refine AW.loopD hE (fun s : Nat × ByteArray => [I ((s.1 : Nat) : Int), .any, .any, S s.2, .any, .any, .any, .any, .any, .any, .any, .any, .any, .any, .any, .any, .any, .any, .any, .any]) (fun s => []) (fun s => s.1) (fun s => dgs s.1 s.2 = dgs k.toNat ⟨#[]⟩ ∧ s.1 + s.2.size ≤ 9223372036854775000) (k.toNat, ⟨#[]⟩) ⟨rfl, by have e : (⟨#[]⟩ : ByteArray).size = 0 := rfl; dsimp only; omega⟩ ?_ (by first | rfl | (simp; done)) ?_) | refine AW.cT ?_ | refine AW.cF ?_ | (refine AW.c2 ?_ ?_ <;> (intro h; try simp only [bT, bF] at h)))
    | with_reducible refine ifP ?_
    | with_reducible refine ifN ?_) <;> (try dsimp only))
  · exact Fin.one rfl (RV.tmp (by rfl)) (clo_c _) ⟨by rw [mtx, if_pos (by simpa using h)], rfl⟩
  · (repeat' (first | exact Wk.nil | refine Wk.any ?_ | (with_reducible refine Wk.same ?_) | refine Wk.of ?_ ?_)) <;> first | rfl | (rw [Int.toNat_of_nonneg h0])
  · rintro ⟨m, out⟩ ⟨hd, hsz⟩
    dsimp only at hd hsz ⊢
    by_cases hm : m = 0
    · subst hm
      have ht : decide (((0 : Nat) : Int) > 0) = false := by decide
      have hos : (⟨#[109]⟩ : ByteArray).size + out.size ≤ 9223372036854775807 := by have e : (⟨#[109]⟩ : ByteArray).size = 1 := rfl; omega
      rw [dgs_zero] at hd
      repeat' ((first
        | (refine iAL ?_; first | refine AL.any ?_ | refine AL.nil ?_)
        | (refine iAW ?_; first | (refine AW.c0 ?_; constructor) | refine AW.cT ?_ | refine AW.cF ?_ | (refine AW.c2 ?_ ?_ <;> (intro h; try simp only [bT, bF] at h)))
        | with_reducible refine ifP ?_
        | with_reducible refine ifN ?_) <;> (try dsimp only))
      all_goals exact Fin.one rfl (RV.tmp (by rfl)) (clo_c _) ⟨by rw [mtx, if_neg (by simpa using h), hd], rfl⟩
    · have ht : decide (((m : Nat) : Int) > 0) = true := by simp; omega
      have hv : IntKind.u8.wrap (IntKind.i64.wrap (48 + ((m : Nat) : Int).tmod 10)) = (((dgt m).toNat : Nat) : Int) := by
        have e1 : ((m : Nat) : Int).tmod 10 = ((m % 10 : Nat) : Int) := by rw [Int.ofNat_tmod]; rfl
        have h1 : m % 10 < 10 := Nat.mod_lt _ (by omega)
        rw [e1, w64 (by omega) (by omega), dgt_val]
        unfold IntKind.wrap
        simp [IntKind.bits, IntKind.signed]
        omega
      have hq : IntKind.i64.wrap (((m : Nat) : Int).tdiv 10) = ((m / 10 : Nat) : Int) := by
        have e1 : ((m : Nat) : Int).tdiv 10 = ((m / 10 : Nat) : Int) := by rw [Int.ofNat_tdiv]; rfl
        rw [e1, w64 (by omega) (by omega)]
      have hos : (⟨#[dgt m]⟩ : ByteArray).size + out.size ≤ 9223372036854775807 := by have e : (⟨#[dgt m]⟩ : ByteArray).size = 1 := rfl; omega
      have hdp := dgs_pos hm out
      repeat' ((first
        | (refine iAL ?_; first | refine AL.any ?_ | refine AL.nil ?_)
        | (refine iAW ?_; first | (refine AW.c0 ?_; constructor) | refine AW.cT ?_ | refine AW.cF ?_ | (refine AW.c2 ?_ ?_ <;> (intro h; try simp only [bT, bF] at h)))
        | with_reducible refine ifP ?_
        | with_reducible refine ifN ?_) <;> (try dsimp only))
      all_goals (refine ⟨(m / 10, ⟨#[dgt m]⟩ ++ out), _, ⟨by rw [← hdp]; exact hd, ?_⟩, ?_, ?_, rfl, ?_, ?_⟩)
      · dsimp only
        rw [ByteArray.size_append]
        have e : (⟨#[dgt m]⟩ : ByteArray).size = 1 := rfl
        omega
      · dsimp only
        omega
      · (repeat' (first | exact Wk.nil | refine Wk.any ?_ | (with_reducible refine Wk.same ?_) | refine Wk.of ?_ ?_)) <;> first | rfl | (rw [hq])
      · (repeat' (first | exact Fits.nil _ | refine Fits.cons ?_ ?_ | exact Fits.any _ | exact Fits.c _ _ | exact Fits.own (by rfl) | exact Fits.ref (by rfl) | exact Fits.clo (by assumption) | exact Fits.clo (clo_of (by rfl)) | exact Fits.clo (clo_fn _)))
      · exact FitsM.nil _

def TPoint.ct (x : TPoint) : Nat := 2
def TPoint.mrk (k : Int) (x : TPoint) : TPoint := ⟨k, k + 1⟩
theorem TPoint.ct_pos (x : TPoint) : 1 ≤ x.ct := by unfold TPoint.ct; omega
def TFeature.ct (x : TFeature) : Nat := 4 + ctL TPoint.ct x.points
def TFeature.mrk (k : Int) (x : TFeature) : TFeature := ⟨k, k + 1, k + 1 + 1, mtx (k + 1 + 1 + 1), mkL TPoint.mrk TPoint.ct (k + 1 + 1 + 1 + 1) x.points⟩
theorem TFeature.ct_pos (x : TFeature) : 1 ≤ x.ct := by unfold TFeature.ct; omega
def TEntry.ct (x : TEntry) : Nat := 7 + ctL TPoint.ct x.feature.points
def TEntry.mrk (k : Int) (x : TEntry) : TEntry := ⟨⟨k, k + 1, k + 1 + 1, mtx (k + 1 + 1 + 1), mkL TPoint.mrk TPoint.ct (k + 1 + 1 + 1 + 1) x.feature.points⟩, k + 1 + 1 + 1 + 1 + ((ctL TPoint.ct x.feature.points : Nat) : Int), k + 1 + 1 + 1 + 1 + ((ctL TPoint.ct x.feature.points : Nat) : Int) + 1, ((k + 1 + 1 + 1 + 1 + ((ctL TPoint.ct x.feature.points : Nat) : Int) + 1 + 1).tmod 3 == 0)⟩
theorem TEntry.ct_pos (x : TEntry) : 1 ≤ x.ct := by unfold TEntry.ct; omega
def TLevel.ct (x : TLevel) : Nat := 3
def TLevel.mrk (k : Int) (x : TLevel) : TLevel := ⟨k, k + 1, k + 1 + 1⟩
theorem TLevel.ct_pos (x : TLevel) : 1 ≤ x.ct := by unfold TLevel.ct; omega
def TEdition.ct (x : TEdition) : Nat := 2 + ctL TFeature.ct x.source
def TEdition.mrk (k : Int) (x : TEdition) : TEdition := ⟨k, mkL TFeature.mrk TFeature.ct (k + 1) x.source, k + 1 + ((ctL TFeature.ct x.source : Nat) : Int)⟩
theorem TEdition.ct_pos (x : TEdition) : 1 ≤ x.ct := by unfold TEdition.ct; omega
theorem markPointS (ty : TypeId) (l : List TPoint) (k : Int) (h0 : 0 ≤ k) (hb : k + ((ctL TPoint.ct l : Nat) : Int) ≤ 4611686018427387904) : ACalls Tryz.prog 83 [.own 0 0, I k] [some ⟨ty, 2, 0, false, l.map TPoint.en⟩] (fun r M => r = I (k + ((ctL TPoint.ct l : Nat) : Int)) ∧ ∃ Mx, M = [(⟨ty, 2, 0, false, (mkL TPoint.mrk TPoint.ct k l).map TPoint.en⟩ : Blk)].map some ++ Mx) := by
  have hll := len_ctL TPoint.ct_pos l
  refine ACalls.body Tryz.func83 rfl 25 rfl (fun E hE => ?_)
  simp only [List.reduceReplicate, List.cons_append, List.nil_append]
  repeat' ((first
    | (refine iAL ?_; first | refine AL.any ?_ | refine AL.nil ?_)
    | (refine iAW ?_; first | (refine AW.c0 ?_; constructor) | (refine AW.loopE (fun i : Nat => [.own 0 0, I (k + ((ctL TPoint.ct (l.take i) : Nat) : Int)), .any, .any, .any, I (i : Int), .any, .any, .any, .any, .any, .any, .any, .any, .any, .any, .any, .any, .any, .any, .any, .any, .any, .any, .any, .any, .any]) (fun i => [some ⟨ty, 2, 0, false, (mkd TPoint.mrk TPoint.ct k l i).map TPoint.en⟩]) (fun i => by rw [hE]; exact Nat.le_refl _) (fun i => l.length - i) (fun i => i ≤ l.length) 0 (Nat.zero_le _) ?_ (by rw [mkd_zero] <;> rfl) ?_) | refine AW.cT ?_ | refine AW.cF ?_ | (refine AW.c2 ?_ ?_ <;> (intro h; try simp only [bT, bF] at h)))
    | with_reducible refine ifP ?_
    | with_reducible refine ifN ?_) <;> (try dsimp only))
  · (repeat' (first | exact Wk.nil | refine Wk.any ?_ | (with_reducible refine Wk.same ?_) | refine Wk.of ?_ ?_)) <;> first | rfl | (simp [ctL])
  · intro i hi
    by_cases hlt : i < l.length
    · obtain ⟨x, hx⟩ : ∃ x, l[i]? = some x := ⟨_, List.getElem?_eq_getElem hlt⟩
      have hn := next_ix hlt (by omega)
      obtain ⟨K, hK⟩ : ∃ K, K = k + ((ctL TPoint.ct (l.take i) : Nat) : Int) := ⟨_, rfl⟩
      rw [← hK]
      have hct := ctL_le (ct := TPoint.ct) hx
      have hcs := ctL_take (ct := TPoint.ct) hx
      have hcx : TPoint.ct x = 2 := rfl
      have hw0 : IntKind.i64.wrap (K + 1) = K + 1 := w64 (by omega) (by omega)
      have hw1 : IntKind.i64.wrap (K + 1 + 1) = K + 1 + 1 := w64 (by omega) (by omega)
      have hend : K + 1 + 1 = k + ((ctL TPoint.ct (l.take (i + 1)) : Nat) : Int) := by omega
      have hms : (mkd TPoint.mrk TPoint.ct k l (i + 1)).map TPoint.en = ((mkd TPoint.mrk TPoint.ct k l i).map TPoint.en).set ((i : Int)).toNat (TPoint.en (TPoint.mrk K x)) := by rw [mkd_succ hx, List.map_set, toNat_ix, hK]
      obtain ⟨A, hA⟩ : ∃ A, A = (mkd TPoint.mrk TPoint.ct k l i).map TPoint.en := ⟨_, rfl⟩
      rw [← hA] at hms
      have hAl : A.length = l.length := by rw [hA, List.length_map, mkd_len hi]
      have hix : ((i : Int)).toNat < A.length := by rw [toNat_ix]; omega
      have hself : A.set ((i : Int)).toNat (TPoint.en x) = A := by
        rw [toNat_ix]
        exact set_self_of (by rw [hA, List.getElem?_map, mkd_get hx]; rfl)
      have htA : ∀ r : List AV, decide ((i : Int) < ((A.set ((i : Int)).toNat r).length : Int)) = true := fun r => by rw [List.length_set]; simp; omega
      rw [← hA, ← hself]
      dsimp only [TPoint.en]
      repeat' ((first
        | (refine iAL ?_; first | refine AL.any ?_ | refine AL.nil ?_)
        | (refine iAW ?_; first | (rw [hw0]) | (rw [hw1]) | (refine AW.c0 ?_; constructor) | (refine AW.cT ?_ (hb := htA _)) | (refine AW.cF ?_ (hb := htA _)) | refine AW.cT ?_ | refine AW.cF ?_ | (refine AW.c2 ?_ ?_ <;> (intro h; try simp only [bT, bF] at h)))
        | with_reducible refine ifP ?_
        | with_reducible refine ifN ?_) <;> (try dsimp only))
      all_goals (refine ⟨i + 1, [], hlt, by omega, ?_, ?_, ?_, ?_⟩; (focus ((repeat' (first | exact Wk.nil | refine Wk.any ?_ | (with_reducible refine Wk.same ?_) | refine Wk.of ?_ ?_)) <;> first | rfl | (rw [hend]) | (rw [hn]))); (focus (rw [hms] <;> rfl)); (focus ((repeat' (first | exact Fits.nil _ | refine Fits.cons ?_ ?_ | exact Fits.any _ | exact Fits.c _ _ | exact Fits.own (by rfl) | exact Fits.ref (by rfl) | exact Fits.clo (by assumption) | exact Fits.clo (clo_of (by rfl)) | exact Fits.clo (clo_fn _))))); (focus (exact fits_dcl (DCl.map (fun _ => rfl)))))
    · have e : i = l.length := by omega
      subst e
      have hml : (mkd TPoint.mrk TPoint.ct k l l.length).length = l.length := mkd_len (Nat.le_refl _)
      have ht : decide ((l.length : Int) < ((((mkd TPoint.mrk TPoint.ct k l l.length).map TPoint.en).length : Nat) : Int)) = false := by rw [List.length_map, hml]; simp
      rw [List.take_length]
      repeat' ((first
        | (refine iAL ?_; first | refine AL.any ?_ | refine AL.nil ?_)
        | (refine iAW ?_; first | (refine AW.c0 ?_; constructor) | (refine AW.cT ?_ (hb := ht)) | (refine AW.cF ?_ (hb := ht)) | refine AW.cT ?_ | refine AW.cF ?_ | (refine AW.c2 ?_ ?_ <;> (intro h; try simp only [bT, bF] at h)))
        | with_reducible refine ifP ?_
        | with_reducible refine ifN ?_) <;> (try dsimp only))
      all_goals exact FinA.one rfl (RV.tmp (by rfl)) ⟨rfl, [], by rw [mkd_all] <;> rfl⟩

theorem markFeatureS (ty : TypeId) (l : List TFeature) (k : Int) (h0 : 0 ≤ k) (hb : k + ((ctL TFeature.ct l : Nat) : Int) ≤ 4611686018427387904) : ACalls Tryz.prog 31 [.own 0 0, I k] [some ⟨ty, 5, 0, false, l.map TFeature.ed⟩] (fun r M => r = I (k + ((ctL TFeature.ct l : Nat) : Int)) ∧ ∃ Mx, M = [(⟨ty, 5, 0, false, (mkL TFeature.mrk TFeature.ct k l).map TFeature.ed⟩ : Blk)].map some ++ Mx) := by
  have hll := len_ctL TFeature.ct_pos l
  refine ACalls.body Tryz.func31 rfl 47 rfl (fun E hE => ?_)
  simp only [List.reduceReplicate, List.cons_append, List.nil_append]
  repeat' ((first
    | (refine iAL ?_; first | refine AL.any ?_ | refine AL.any (h := POp.k Tryz.func82 (hc := markText _ (by omega) (by omega))) ?_ | refine AL.nil ?_)
    | (refine iAW ?_; first | (refine AW.c0 ?_; constructor) | (refine AW.loopE (fun i : Nat => [.own 0 0, I (k + ((ctL TFeature.ct (l.take i) : Nat) : Int)), .any, .any, .any, I (i : Int), .any, .any, .any, .any, .any, .any, .any, .any, .any, .any, .any, .any, .any, .any, .any, .any, .any, .any, .any, .any, .any, .any, .any, .any, .any, .any, .any, .any, .any, .any, .any, .any, .any, .any, .any, .any, .any, .any, .any, .any, .any, .any, .any]) (fun i => [some ⟨ty, 5, 0, false, (mkd TFeature.mrk TFeature.ct k l i).map TFeature.ed⟩]) (fun i => by rw [hE]; exact Nat.le_refl _) (fun i => l.length - i) (fun i => i ≤ l.length) 0 (Nat.zero_le _) ?_ (by rw [mkd_zero] <;> rfl) ?_) | refine AW.cT ?_ | refine AW.cF ?_ | (refine AW.c2 ?_ ?_ <;> (intro h; try simp only [bT, bF] at h)))
    | with_reducible refine ifP ?_
    | with_reducible refine ifN ?_) <;> (try dsimp only))
  · (repeat' (first | exact Wk.nil | refine Wk.any ?_ | (with_reducible refine Wk.same ?_) | refine Wk.of ?_ ?_)) <;> first | rfl | (simp [ctL])
  · intro i hi
    by_cases hlt : i < l.length
    · obtain ⟨x, hx⟩ : ∃ x, l[i]? = some x := ⟨_, List.getElem?_eq_getElem hlt⟩
      have hn := next_ix hlt (by omega)
      obtain ⟨K, hK⟩ : ∃ K, K = k + ((ctL TFeature.ct (l.take i) : Nat) : Int) := ⟨_, rfl⟩
      rw [← hK]
      have hct := ctL_le (ct := TFeature.ct) hx
      have hcs := ctL_take (ct := TFeature.ct) hx
      have hcx : TFeature.ct x = 4 + ctL TPoint.ct x.points := rfl
      have hw0 : IntKind.i64.wrap (K + 1) = K + 1 := w64 (by omega) (by omega)
      have hw1 : IntKind.i64.wrap (K + 1 + 1) = K + 1 + 1 := w64 (by omega) (by omega)
      have hw2 : IntKind.i64.wrap (K + 1 + 1 + 1) = K + 1 + 1 + 1 := w64 (by omega) (by omega)
      have hw3 : IntKind.i64.wrap (K + 1 + 1 + 1 + 1) = K + 1 + 1 + 1 + 1 := w64 (by omega) (by omega)
      have hend : K + 1 + 1 + 1 + 1 + ((ctL TPoint.ct x.points : Nat) : Int) = k + ((ctL TFeature.ct (l.take (i + 1)) : Nat) : Int) := by omega
      have hms : (mkd TFeature.mrk TFeature.ct k l (i + 1)).map TFeature.ed = ((mkd TFeature.mrk TFeature.ct k l i).map TFeature.ed).set ((i : Int)).toNat (TFeature.ed (TFeature.mrk K x)) := by rw [mkd_succ hx, List.map_set, toNat_ix, hK]
      obtain ⟨A, hA⟩ : ∃ A, A = (mkd TFeature.mrk TFeature.ct k l i).map TFeature.ed := ⟨_, rfl⟩
      rw [← hA] at hms
      have hAl : A.length = l.length := by rw [hA, List.length_map, mkd_len hi]
      have hix : ((i : Int)).toNat < A.length := by rw [toNat_ix]; omega
      have hself : A.set ((i : Int)).toNat (TFeature.ed x) = A := by
        rw [toNat_ix]
        exact set_self_of (by rw [hA, List.getElem?_map, mkd_get hx]; rfl)
      have htA : ∀ r : List AV, decide ((i : Int) < ((A.set ((i : Int)).toNat r).length : Int)) = true := fun r => by rw [List.length_set]; simp; omega
      rw [← hA, ← hself]
      dsimp only [TFeature.ed]
      refine AW.ghE (GhE.exposeS (q := 0) (i := ((i : Int)).toNat) (j := 4) rfl hix rfl TPoint.dpr) (fun ty1 => ?_)
      dsimp only [List.set, List.length, List.cons_append, List.nil_append, List.append, Nat.zero_add, Nat.reduceAdd]
      repeat' ((first
        | (refine iAL ?_; first | refine AL.any (h := POp.gh (POp.H [1] Tryz.func83 (hc := markPointS ty1 x.points (K + 1 + 1 + 1 + 1) (by omega) (by omega))) (Gh.absorbS (q := 0) (id := 1) (j := 4) rfl (by assumption) rfl rfl rfl rfl rfl (DCl.map (fun _ => rfl)) TPoint.und)) ?_ | refine AL.any ?_ | refine AL.any (h := POp.k Tryz.func82 (hc := markText _ (by omega) (by omega))) ?_ | refine AL.nil ?_)
        | (refine iAW ?_; first | (rw [hw0]) | (rw [hw1]) | (rw [hw2]) | (rw [hw3]) | (refine AW.c0 ?_; constructor) | (refine AW.cT ?_ (hb := htA _)) | (refine AW.cF ?_ (hb := htA _)) | refine AW.cT ?_ | refine AW.cF ?_ | (refine AW.c2 ?_ ?_ <;> (intro h; try simp only [bT, bF] at h)))
        | with_reducible refine ifP ?_
        | with_reducible refine ifN ?_) <;> (try dsimp only))
      all_goals (refine ⟨i + 1, [none], hlt, by omega, ?_, ?_, ?_, ?_⟩; (focus ((repeat' (first | exact Wk.nil | refine Wk.any ?_ | (with_reducible refine Wk.same ?_) | refine Wk.of ?_ ?_)) <;> first | rfl | (rw [hend]) | (rw [hn]))); (focus (rw [hms] <;> rfl)); (focus ((repeat' (first | exact Fits.nil _ | refine Fits.cons ?_ ?_ | exact Fits.any _ | exact Fits.c _ _ | exact Fits.own (by rfl) | exact Fits.ref (by rfl) | exact Fits.clo (by assumption) | exact Fits.clo (clo_of (by rfl)) | exact Fits.clo (clo_fn _))))); (focus (exact fits_dcl (DCl.map (fun _ => rfl)))))
    · have e : i = l.length := by omega
      subst e
      have hml : (mkd TFeature.mrk TFeature.ct k l l.length).length = l.length := mkd_len (Nat.le_refl _)
      have ht : decide ((l.length : Int) < ((((mkd TFeature.mrk TFeature.ct k l l.length).map TFeature.ed).length : Nat) : Int)) = false := by rw [List.length_map, hml]; simp
      rw [List.take_length]
      repeat' ((first
        | (refine iAL ?_; first | refine AL.any ?_ | refine AL.any (h := POp.k Tryz.func82 (hc := markText _ (by omega) (by omega))) ?_ | refine AL.nil ?_)
        | (refine iAW ?_; first | (refine AW.c0 ?_; constructor) | (refine AW.cT ?_ (hb := ht)) | (refine AW.cF ?_ (hb := ht)) | refine AW.cT ?_ | refine AW.cF ?_ | (refine AW.c2 ?_ ?_ <;> (intro h; try simp only [bT, bF] at h)))
        | with_reducible refine ifP ?_
        | with_reducible refine ifN ?_) <;> (try dsimp only))
      all_goals exact FinA.one rfl (RV.tmp (by rfl)) ⟨rfl, [], by rw [mkd_all] <;> rfl⟩

theorem markEntryS (ty : TypeId) (l : List TEntry) (k : Int) (h0 : 0 ≤ k) (hb : k + ((ctL TEntry.ct l : Nat) : Int) ≤ 4611686018427387904) : ACalls Tryz.prog 98 [.own 0 0, I k] [some ⟨ty, 8, 0, false, l.map TEntry.ed⟩] (fun r M => r = I (k + ((ctL TEntry.ct l : Nat) : Int)) ∧ ∃ Mx, M = [(⟨ty, 8, 0, false, (mkL TEntry.mrk TEntry.ct k l).map TEntry.ed⟩ : Blk)].map some ++ Mx) := by
  have hll := len_ctL TEntry.ct_pos l
  refine ACalls.body Tryz.func98 rfl 75 rfl (fun E hE => ?_)
  simp only [List.reduceReplicate, List.cons_append, List.nil_append]
  repeat' ((first
    | (refine iAL ?_; first | refine AL.any ?_ | refine AL.any (h := POp.k Tryz.func82 (hc := markText _ (by omega) (by omega))) ?_ | refine AL.nil ?_)
    | (refine iAW ?_; first | (refine AW.c0 ?_; constructor) | (refine AW.loopE (fun i : Nat => (.own 0 0 :: I (k + ((ctL TEntry.ct (l.take i) : Nat) : Int)) :: .any :: .any :: .any :: I (i : Int) :: .any :: .any :: .any :: .any :: .any :: .any :: .any :: .any :: .any :: .any :: .any :: .any :: .any :: .any :: .any :: .any :: .any :: .any :: .any :: .any :: .any :: .any :: .any :: .any :: .any :: .any :: .any :: .any :: .any :: .any :: .any :: .any :: .any :: .any :: .any :: .any :: .any :: .any :: .any :: .any :: .any :: .any :: .any :: .any :: .any :: .any :: .any :: .any :: .any :: .any :: .any :: .any :: .any :: .any :: .any :: .any :: .any :: .any :: .any :: .any :: .any :: .any :: .any :: .any :: .any :: .any :: .any :: .any :: .any :: .any :: .any :: [])) (fun i => [some ⟨ty, 8, 0, false, (mkd TEntry.mrk TEntry.ct k l i).map TEntry.ed⟩]) (fun i => by rw [hE]; exact Nat.le_refl _) (fun i => l.length - i) (fun i => i ≤ l.length) 0 (Nat.zero_le _) ?_ (by rw [mkd_zero] <;> rfl) ?_) | refine AW.cT ?_ | refine AW.cF ?_ | (refine AW.c2 ?_ ?_ <;> (intro h; try simp only [bT, bF] at h)))
    | with_reducible refine ifP ?_
    | with_reducible refine ifN ?_) <;> (try dsimp only))
  · (repeat' (first | exact Wk.nil | refine Wk.any ?_ | (with_reducible refine Wk.same ?_) | refine Wk.of ?_ ?_)) <;> first | rfl | (simp [ctL])
  · intro i hi
    by_cases hlt : i < l.length
    · obtain ⟨x, hx⟩ : ∃ x, l[i]? = some x := ⟨_, List.getElem?_eq_getElem hlt⟩
      have hn := next_ix hlt (by omega)
      obtain ⟨K, hK⟩ : ∃ K, K = k + ((ctL TEntry.ct (l.take i) : Nat) : Int) := ⟨_, rfl⟩
      rw [← hK]
      have hct := ctL_le (ct := TEntry.ct) hx
      have hcs := ctL_take (ct := TEntry.ct) hx
      have hcx : TEntry.ct x = 7 + ctL TPoint.ct x.feature.points := rfl
      have hw0 : IntKind.i64.wrap (K + 1) = K + 1 := w64 (by omega) (by omega)
      have hw1 : IntKind.i64.wrap (K + 1 + 1) = K + 1 + 1 := w64 (by omega) (by omega)
      have hw2 : IntKind.i64.wrap (K + 1 + 1 + 1) = K + 1 + 1 + 1 := w64 (by omega) (by omega)
      have hw3 : IntKind.i64.wrap (K + 1 + 1 + 1 + 1) = K + 1 + 1 + 1 + 1 := w64 (by omega) (by omega)
      have hw4 : IntKind.i64.wrap (K + 1 + 1 + 1 + 1 + ((ctL TPoint.ct x.feature.points : Nat) : Int) + 1) = K + 1 + 1 + 1 + 1 + ((ctL TPoint.ct x.feature.points : Nat) : Int) + 1 := w64 (by omega) (by omega)
      have hw5 : IntKind.i64.wrap (K + 1 + 1 + 1 + 1 + ((ctL TPoint.ct x.feature.points : Nat) : Int) + 1 + 1) = K + 1 + 1 + 1 + 1 + ((ctL TPoint.ct x.feature.points : Nat) : Int) + 1 + 1 := w64 (by omega) (by omega)
      have hw6 : IntKind.i64.wrap (K + 1 + 1 + 1 + 1 + ((ctL TPoint.ct x.feature.points : Nat) : Int) + 1 + 1 + 1) = K + 1 + 1 + 1 + 1 + ((ctL TPoint.ct x.feature.points : Nat) : Int) + 1 + 1 + 1 := w64 (by omega) (by omega)
      have hend : K + 1 + 1 + 1 + 1 + ((ctL TPoint.ct x.feature.points : Nat) : Int) + 1 + 1 + 1 = k + ((ctL TEntry.ct (l.take (i + 1)) : Nat) : Int) := by omega
      have hms : (mkd TEntry.mrk TEntry.ct k l (i + 1)).map TEntry.ed = ((mkd TEntry.mrk TEntry.ct k l i).map TEntry.ed).set ((i : Int)).toNat (TEntry.ed (TEntry.mrk K x)) := by rw [mkd_succ hx, List.map_set, toNat_ix, hK]
      obtain ⟨A, hA⟩ : ∃ A, A = (mkd TEntry.mrk TEntry.ct k l i).map TEntry.ed := ⟨_, rfl⟩
      rw [← hA] at hms
      have hAl : A.length = l.length := by rw [hA, List.length_map, mkd_len hi]
      have hix : ((i : Int)).toNat < A.length := by rw [toNat_ix]; omega
      have hself : A.set ((i : Int)).toNat (TEntry.ed x) = A := by
        rw [toNat_ix]
        exact set_self_of (by rw [hA, List.getElem?_map, mkd_get hx]; rfl)
      have htA : ∀ r : List AV, decide ((i : Int) < ((A.set ((i : Int)).toNat r).length : Int)) = true := fun r => by rw [List.length_set]; simp; omega
      rw [← hA, ← hself]
      dsimp only [TEntry.ed]
      refine AW.ghE (GhE.exposeS (q := 0) (i := ((i : Int)).toNat) (j := 4) rfl hix rfl TPoint.dpr) (fun ty1 => ?_)
      dsimp only [List.set, List.length, List.cons_append, List.nil_append, List.append, Nat.zero_add, Nat.reduceAdd]
      repeat' ((first
        | (refine iAL ?_; first | refine AL.any (h := POp.gh (POp.H [1] Tryz.func83 (hc := markPointS ty1 x.feature.points (K + 1 + 1 + 1 + 1) (by omega) (by omega))) (Gh.absorbS (q := 0) (id := 1) (j := 4) rfl (by assumption) rfl rfl rfl rfl rfl (DCl.map (fun _ => rfl)) TPoint.und)) ?_ | refine AL.any ?_ | refine AL.any (h := POp.k Tryz.func82 (hc := markText _ (by omega) (by omega))) ?_ | refine AL.nil ?_)
        | (refine iAW ?_; first | (rw [hw0]) | (rw [hw1]) | (rw [hw2]) | (rw [hw3]) | (rw [hw4]) | (rw [hw5]) | (rw [hw6]) | (refine AW.c0 ?_; constructor) | (refine AW.cT ?_ (hb := htA _)) | (refine AW.cF ?_ (hb := htA _)) | refine AW.cT ?_ | refine AW.cF ?_ | (refine AW.c2 ?_ ?_ <;> (intro h; try simp only [bT, bF] at h)))
        | with_reducible refine ifP ?_
        | with_reducible refine ifN ?_) <;> (try dsimp only))
      all_goals (refine ⟨i + 1, [none], hlt, by omega, ?_, ?_, ?_, ?_⟩; (focus ((repeat' (first | exact Wk.nil | refine Wk.any ?_ | (with_reducible refine Wk.same ?_) | refine Wk.of ?_ ?_)) <;> first | rfl | (rw [hend]) | (rw [hn]))); (focus (rw [hms] <;> rfl)); (focus ((repeat' (first | exact Fits.nil _ | refine Fits.cons ?_ ?_ | exact Fits.any _ | exact Fits.c _ _ | exact Fits.own (by rfl) | exact Fits.ref (by rfl) | exact Fits.clo (by assumption) | exact Fits.clo (clo_of (by rfl)) | exact Fits.clo (clo_fn _))))); (focus (exact fits_dcl (DCl.map (fun _ => rfl)))))
    · have e : i = l.length := by omega
      subst e
      have hml : (mkd TEntry.mrk TEntry.ct k l l.length).length = l.length := mkd_len (Nat.le_refl _)
      have ht : decide ((l.length : Int) < ((((mkd TEntry.mrk TEntry.ct k l l.length).map TEntry.ed).length : Nat) : Int)) = false := by rw [List.length_map, hml]; simp
      rw [List.take_length]
      repeat' ((first
        | (refine iAL ?_; first | refine AL.any ?_ | refine AL.any (h := POp.k Tryz.func82 (hc := markText _ (by omega) (by omega))) ?_ | refine AL.nil ?_)
        | (refine iAW ?_; first | (refine AW.c0 ?_; constructor) | (refine AW.cT ?_ (hb := ht)) | (refine AW.cF ?_ (hb := ht)) | refine AW.cT ?_ | refine AW.cF ?_ | (refine AW.c2 ?_ ?_ <;> (intro h; try simp only [bT, bF] at h)))
        | with_reducible refine ifP ?_
        | with_reducible refine ifN ?_) <;> (try dsimp only))
      all_goals exact FinA.one rfl (RV.tmp (by rfl)) ⟨rfl, [], by rw [mkd_all] <;> rfl⟩

theorem markLevelS (ty : TypeId) (l : List TLevel) (k : Int) (h0 : 0 ≤ k) (hb : k + ((ctL TLevel.ct l : Nat) : Int) ≤ 4611686018427387904) : ACalls Tryz.prog 32 [.own 0 0, I k] [some ⟨ty, 3, 0, false, l.map TLevel.en⟩] (fun r M => r = I (k + ((ctL TLevel.ct l : Nat) : Int)) ∧ ∃ Mx, M = [(⟨ty, 3, 0, false, (mkL TLevel.mrk TLevel.ct k l).map TLevel.en⟩ : Blk)].map some ++ Mx) := by
  have hll := len_ctL TLevel.ct_pos l
  refine ACalls.body Tryz.func32 rfl 32 rfl (fun E hE => ?_)
  simp only [List.reduceReplicate, List.cons_append, List.nil_append]
  repeat' ((first
    | (refine iAL ?_; first | refine AL.any ?_ | refine AL.nil ?_)
    | (refine iAW ?_; first | (refine AW.c0 ?_; constructor) | (refine AW.loopE (fun i : Nat => [.own 0 0, I (k + ((ctL TLevel.ct (l.take i) : Nat) : Int)), .any, .any, .any, I (i : Int), .any, .any, .any, .any, .any, .any, .any, .any, .any, .any, .any, .any, .any, .any, .any, .any, .any, .any, .any, .any, .any, .any, .any, .any, .any, .any, .any, .any]) (fun i => [some ⟨ty, 3, 0, false, (mkd TLevel.mrk TLevel.ct k l i).map TLevel.en⟩]) (fun i => by rw [hE]; exact Nat.le_refl _) (fun i => l.length - i) (fun i => i ≤ l.length) 0 (Nat.zero_le _) ?_ (by rw [mkd_zero] <;> rfl) ?_) | refine AW.cT ?_ | refine AW.cF ?_ | (refine AW.c2 ?_ ?_ <;> (intro h; try simp only [bT, bF] at h)))
    | with_reducible refine ifP ?_
    | with_reducible refine ifN ?_) <;> (try dsimp only))
  · (repeat' (first | exact Wk.nil | refine Wk.any ?_ | (with_reducible refine Wk.same ?_) | refine Wk.of ?_ ?_)) <;> first | rfl | (simp [ctL])
  · intro i hi
    by_cases hlt : i < l.length
    · obtain ⟨x, hx⟩ : ∃ x, l[i]? = some x := ⟨_, List.getElem?_eq_getElem hlt⟩
      have hn := next_ix hlt (by omega)
      obtain ⟨K, hK⟩ : ∃ K, K = k + ((ctL TLevel.ct (l.take i) : Nat) : Int) := ⟨_, rfl⟩
      rw [← hK]
      have hct := ctL_le (ct := TLevel.ct) hx
      have hcs := ctL_take (ct := TLevel.ct) hx
      have hcx : TLevel.ct x = 3 := rfl
      have hw0 : IntKind.i64.wrap (K + 1) = K + 1 := w64 (by omega) (by omega)
      have hw1 : IntKind.i64.wrap (K + 1 + 1) = K + 1 + 1 := w64 (by omega) (by omega)
      have hw2 : IntKind.i64.wrap (K + 1 + 1 + 1) = K + 1 + 1 + 1 := w64 (by omega) (by omega)
      have hend : K + 1 + 1 + 1 = k + ((ctL TLevel.ct (l.take (i + 1)) : Nat) : Int) := by omega
      have hms : (mkd TLevel.mrk TLevel.ct k l (i + 1)).map TLevel.en = ((mkd TLevel.mrk TLevel.ct k l i).map TLevel.en).set ((i : Int)).toNat (TLevel.en (TLevel.mrk K x)) := by rw [mkd_succ hx, List.map_set, toNat_ix, hK]
      obtain ⟨A, hA⟩ : ∃ A, A = (mkd TLevel.mrk TLevel.ct k l i).map TLevel.en := ⟨_, rfl⟩
      rw [← hA] at hms
      have hAl : A.length = l.length := by rw [hA, List.length_map, mkd_len hi]
      have hix : ((i : Int)).toNat < A.length := by rw [toNat_ix]; omega
      have hself : A.set ((i : Int)).toNat (TLevel.en x) = A := by
        rw [toNat_ix]
        exact set_self_of (by rw [hA, List.getElem?_map, mkd_get hx]; rfl)
      have htA : ∀ r : List AV, decide ((i : Int) < ((A.set ((i : Int)).toNat r).length : Int)) = true := fun r => by rw [List.length_set]; simp; omega
      rw [← hA, ← hself]
      dsimp only [TLevel.en]
      repeat' ((first
        | (refine iAL ?_; first | refine AL.any ?_ | refine AL.nil ?_)
        | (refine iAW ?_; first | (rw [hw0]) | (rw [hw1]) | (rw [hw2]) | (refine AW.c0 ?_; constructor) | (refine AW.cT ?_ (hb := htA _)) | (refine AW.cF ?_ (hb := htA _)) | refine AW.cT ?_ | refine AW.cF ?_ | (refine AW.c2 ?_ ?_ <;> (intro h; try simp only [bT, bF] at h)))
        | with_reducible refine ifP ?_
        | with_reducible refine ifN ?_) <;> (try dsimp only))
      all_goals (refine ⟨i + 1, [], hlt, by omega, ?_, ?_, ?_, ?_⟩; (focus ((repeat' (first | exact Wk.nil | refine Wk.any ?_ | (with_reducible refine Wk.same ?_) | refine Wk.of ?_ ?_)) <;> first | rfl | (rw [hend]) | (rw [hn]))); (focus (rw [hms] <;> rfl)); (focus ((repeat' (first | exact Fits.nil _ | refine Fits.cons ?_ ?_ | exact Fits.any _ | exact Fits.c _ _ | exact Fits.own (by rfl) | exact Fits.ref (by rfl) | exact Fits.clo (by assumption) | exact Fits.clo (clo_of (by rfl)) | exact Fits.clo (clo_fn _))))); (focus (exact fits_dcl (DCl.map (fun _ => rfl)))))
    · have e : i = l.length := by omega
      subst e
      have hml : (mkd TLevel.mrk TLevel.ct k l l.length).length = l.length := mkd_len (Nat.le_refl _)
      have ht : decide ((l.length : Int) < ((((mkd TLevel.mrk TLevel.ct k l l.length).map TLevel.en).length : Nat) : Int)) = false := by rw [List.length_map, hml]; simp
      rw [List.take_length]
      repeat' ((first
        | (refine iAL ?_; first | refine AL.any ?_ | refine AL.nil ?_)
        | (refine iAW ?_; first | (refine AW.c0 ?_; constructor) | (refine AW.cT ?_ (hb := ht)) | (refine AW.cF ?_ (hb := ht)) | refine AW.cT ?_ | refine AW.cF ?_ | (refine AW.c2 ?_ ?_ <;> (intro h; try simp only [bT, bF] at h)))
        | with_reducible refine ifP ?_
        | with_reducible refine ifN ?_) <;> (try dsimp only))
      all_goals exact FinA.one rfl (RV.tmp (by rfl)) ⟨rfl, [], by rw [mkd_all] <;> rfl⟩

theorem markEditionS (ty : TypeId) (l : List TEdition) (k : Int) (h0 : 0 ≤ k) (hb : k + ((ctL TEdition.ct l : Nat) : Int) ≤ 4611686018427387904) : ACalls Tryz.prog 99 [.own 0 0, I k] [some ⟨ty, 3, 0, false, l.map TEdition.ed⟩] (fun r M => r = I (k + ((ctL TEdition.ct l : Nat) : Int)) ∧ ∃ Mx, M = [(⟨ty, 3, 0, false, (mkL TEdition.mrk TEdition.ct k l).map TEdition.ed⟩ : Blk)].map some ++ Mx) := by
  have hll := len_ctL TEdition.ct_pos l
  refine ACalls.body Tryz.func99 rfl 32 rfl (fun E hE => ?_)
  simp only [List.reduceReplicate, List.cons_append, List.nil_append]
  repeat' ((first
    | (refine iAL ?_; first | refine AL.any ?_ | refine AL.nil ?_)
    | (refine iAW ?_; first | (refine AW.c0 ?_; constructor) | (refine AW.loopE (fun i : Nat => [.own 0 0, I (k + ((ctL TEdition.ct (l.take i) : Nat) : Int)), .any, .any, .any, I (i : Int), .any, .any, .any, .any, .any, .any, .any, .any, .any, .any, .any, .any, .any, .any, .any, .any, .any, .any, .any, .any, .any, .any, .any, .any, .any, .any, .any, .any]) (fun i => [some ⟨ty, 3, 0, false, (mkd TEdition.mrk TEdition.ct k l i).map TEdition.ed⟩]) (fun i => by rw [hE]; exact Nat.le_refl _) (fun i => l.length - i) (fun i => i ≤ l.length) 0 (Nat.zero_le _) ?_ (by rw [mkd_zero] <;> rfl) ?_) | refine AW.cT ?_ | refine AW.cF ?_ | (refine AW.c2 ?_ ?_ <;> (intro h; try simp only [bT, bF] at h)))
    | with_reducible refine ifP ?_
    | with_reducible refine ifN ?_) <;> (try dsimp only))
  · (repeat' (first | exact Wk.nil | refine Wk.any ?_ | (with_reducible refine Wk.same ?_) | refine Wk.of ?_ ?_)) <;> first | rfl | (simp [ctL])
  · intro i hi
    by_cases hlt : i < l.length
    · obtain ⟨x, hx⟩ : ∃ x, l[i]? = some x := ⟨_, List.getElem?_eq_getElem hlt⟩
      have hn := next_ix hlt (by omega)
      obtain ⟨K, hK⟩ : ∃ K, K = k + ((ctL TEdition.ct (l.take i) : Nat) : Int) := ⟨_, rfl⟩
      rw [← hK]
      have hct := ctL_le (ct := TEdition.ct) hx
      have hcs := ctL_take (ct := TEdition.ct) hx
      have hcx : TEdition.ct x = 2 + ctL TFeature.ct x.source := rfl
      have hw0 : IntKind.i64.wrap (K + 1) = K + 1 := w64 (by omega) (by omega)
      have hw1 : IntKind.i64.wrap (K + 1 + ((ctL TFeature.ct x.source : Nat) : Int) + 1) = K + 1 + ((ctL TFeature.ct x.source : Nat) : Int) + 1 := w64 (by omega) (by omega)
      have hend : K + 1 + ((ctL TFeature.ct x.source : Nat) : Int) + 1 = k + ((ctL TEdition.ct (l.take (i + 1)) : Nat) : Int) := by omega
      have hms : (mkd TEdition.mrk TEdition.ct k l (i + 1)).map TEdition.ed = ((mkd TEdition.mrk TEdition.ct k l i).map TEdition.ed).set ((i : Int)).toNat (TEdition.ed (TEdition.mrk K x)) := by rw [mkd_succ hx, List.map_set, toNat_ix, hK]
      obtain ⟨A, hA⟩ : ∃ A, A = (mkd TEdition.mrk TEdition.ct k l i).map TEdition.ed := ⟨_, rfl⟩
      rw [← hA] at hms
      have hAl : A.length = l.length := by rw [hA, List.length_map, mkd_len hi]
      have hix : ((i : Int)).toNat < A.length := by rw [toNat_ix]; omega
      have hself : A.set ((i : Int)).toNat (TEdition.ed x) = A := by
        rw [toNat_ix]
        exact set_self_of (by rw [hA, List.getElem?_map, mkd_get hx]; rfl)
      have htA : ∀ r : List AV, decide ((i : Int) < ((A.set ((i : Int)).toNat r).length : Int)) = true := fun r => by rw [List.length_set]; simp; omega
      rw [← hA, ← hself]
      dsimp only [TEdition.ed]
      refine AW.ghE (GhE.exposeS (q := 0) (i := ((i : Int)).toNat) (j := 1) rfl hix rfl TFeature.dpr) (fun ty1 => ?_)
      dsimp only [List.set, List.length, List.cons_append, List.nil_append, List.append, Nat.zero_add, Nat.reduceAdd]
      repeat' ((first
        | (refine iAL ?_; first | refine AL.any (h := POp.gh (POp.H [1] Tryz.func31 (hc := markFeatureS ty1 x.source (K + 1) (by omega) (by omega))) (Gh.absorbS (q := 0) (id := 1) (j := 1) rfl (by assumption) rfl rfl rfl rfl rfl (DCl.map (fun _ => rfl)) TFeature.und)) ?_ | refine AL.any ?_ | refine AL.nil ?_)
        | (refine iAW ?_; first | (rw [hw0]) | (rw [hw1]) | (refine AW.c0 ?_; constructor) | (refine AW.cT ?_ (hb := htA _)) | (refine AW.cF ?_ (hb := htA _)) | refine AW.cT ?_ | refine AW.cF ?_ | (refine AW.c2 ?_ ?_ <;> (intro h; try simp only [bT, bF] at h)))
        | with_reducible refine ifP ?_
        | with_reducible refine ifN ?_) <;> (try dsimp only))
      all_goals (refine ⟨i + 1, [none], hlt, by omega, ?_, ?_, ?_, ?_⟩; (focus ((repeat' (first | exact Wk.nil | refine Wk.any ?_ | (with_reducible refine Wk.same ?_) | refine Wk.of ?_ ?_)) <;> first | rfl | (rw [hend]) | (rw [hn]))); (focus (rw [hms] <;> rfl)); (focus ((repeat' (first | exact Fits.nil _ | refine Fits.cons ?_ ?_ | exact Fits.any _ | exact Fits.c _ _ | exact Fits.own (by rfl) | exact Fits.ref (by rfl) | exact Fits.clo (by assumption) | exact Fits.clo (clo_of (by rfl)) | exact Fits.clo (clo_fn _))))); (focus (exact fits_dcl (DCl.map (fun _ => rfl)))))
    · have e : i = l.length := by omega
      subst e
      have hml : (mkd TEdition.mrk TEdition.ct k l l.length).length = l.length := mkd_len (Nat.le_refl _)
      have ht : decide ((l.length : Int) < ((((mkd TEdition.mrk TEdition.ct k l l.length).map TEdition.ed).length : Nat) : Int)) = false := by rw [List.length_map, hml]; simp
      rw [List.take_length]
      repeat' ((first
        | (refine iAL ?_; first | refine AL.any ?_ | refine AL.nil ?_)
        | (refine iAW ?_; first | (refine AW.c0 ?_; constructor) | (refine AW.cT ?_ (hb := ht)) | (refine AW.cF ?_ (hb := ht)) | refine AW.cT ?_ | refine AW.cF ?_ | (refine AW.c2 ?_ ?_ <;> (intro h; try simp only [bT, bF] at h)))
        | with_reducible refine ifP ?_
        | with_reducible refine ifN ?_) <;> (try dsimp only))
      all_goals exact FinA.one rfl (RV.tmp (by rfl)) ⟨rfl, [], by rw [mkd_all] <;> rfl⟩

end Go.Proofs.YtpffahmmklpifaaGreat.Abs
