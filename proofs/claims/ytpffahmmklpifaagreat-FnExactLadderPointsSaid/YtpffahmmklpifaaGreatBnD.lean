/- Part D of the walk over abstract states and of the functions' walks. -/
import Derived.Test.YtpffahmmklpifaaGreatWkStep
import Derived.Test.YtpffahmmklpifaaGreatBnC
import Derived.Test.YtpffahmmklpifaaGreatBnB
/- The walks of the marks and of their tests. -/
namespace Go.Proofs.YtpffahmmklpifaaGreat.Abs
open Go.Proofs Go.RowKit
set_option linter.unusedVariables false
set_option linter.unusedSimpArgs false
set_option maxRecDepth 100000
set_option maxHeartbeats 2000000
attribute [local irreducible] OpA AL AW DL DLM DLR DLS QOp POp VCalls VCallsI
theorem markText (k : Int) (h0 : 0 ≤ k) (hb : k ≤ 9223372036854775000) : VCalls Tryz.prog 82 [I k] (fun r M => r = S (mtx k) ∧ M = []) := by
  refine VCalls.bodyE Tryz.func82 rfl 19 rfl (fun E hE => ?_)
  simp only [List.reduceReplicate, List.cons_append, List.nil_append]
  repeat' ((first
    | (refine iAL ?_; first | refine AL.any ?_ | refine AL.nil ?_)
    | (refine iAW ?_; first | (refine AW.c0 ?_; constructor) | (refine AW.loopD hE (fun s : Nat × ByteArray => [I ((s.1 : Nat) : Int), .any, .any, S s.2, .any, .any, .any, .any, .any, .any, .any, .any, .any, .any, .any, .any, .any, .any, .any, .any]) (fun s => []) (fun s => s.1) (fun s => dgs s.1 s.2 = dgs k.toNat ⟨#[]⟩ ∧ s.1 + s.2.size ≤ 9223372036854775000) (k.toNat, ⟨#[]⟩) ⟨rfl, by have e : (⟨#[]⟩ : ByteArray).size = 0 := rfl; dsimp only; omega⟩ ?_ (by first | rfl | (simp; done)) ?_) | (refine AW.c2 ?_ ?_ <;> (intro h; try simp only [bT, bF] at h)))) <;> (try dsimp only))
  · exact Fin.one rfl (RV.tmp (by rfl)) (clo_c _) ⟨by rw [mtx, if_pos (by simpa using h)], rfl⟩
  · (refine wkj ?_; repeat' with_reducible constructor) <;> first | rfl | (rw [Int.toNat_of_nonneg h0])
  · rintro ⟨m, out⟩ ⟨hd, hsz⟩
    dsimp only at hd hsz ⊢
    by_cases hm : m = 0
    · subst hm
      have ht : decide (((0 : Nat) : Int) > 0) = false := by decide
      have hos : (⟨#[109]⟩ : ByteArray).size + out.size ≤ 9223372036854775807 := by have e : (⟨#[109]⟩ : ByteArray).size = 1 := rfl; omega
      rw [dgs_zero] at hd
      repeat' ((first
        | (refine iAL ?_; first | refine AL.any ?_ | refine AL.nil ?_)
        | (refine iAW ?_; first | (refine AW.c0 ?_; constructor) | refine AW.cT ?_ | refine AW.cF ?_ | (refine AW.c2 ?_ ?_ <;> (intro h; try simp only [bT, bF] at h)))
        | with_reducible refine ifP ?_
        | with_reducible refine ifN ?_) <;> (try dsimp only))
      all_goals exact Fin.one rfl (RV.tmp (by rfl)) (clo_c _) ⟨by rw [mtx, if_neg (by simpa using h), hd], rfl⟩
    · have ht : decide (((m : Nat) : Int) > 0) = true := by simp; omega
      have hv : IntKind.u8.wrap (IntKind.i64.wrap (48 + ((m : Nat) : Int).tmod 10)) = (((dgt m).toNat : Nat) : Int) := by
        have e1 : ((m : Nat) : Int).tmod 10 = ((m % 10 : Nat) : Int) := by rw [Int.ofNat_tmod]; rfl
        have h1 : m % 10 < 10 := Nat.mod_lt _ (by omega)
        rw [e1, w64 (by omega) (by omega), dgt_val]
        unfold IntKind.wrap
        simp [IntKind.bits, IntKind.signed]
        omega
      have hq : IntKind.i64.wrap (((m : Nat) : Int).tdiv 10) = ((m / 10 : Nat) : Int) := by
        have e1 : ((m : Nat) : Int).tdiv 10 = ((m / 10 : Nat) : Int) := by rw [Int.ofNat_tdiv]; rfl
        rw [e1, w64 (by omega) (by omega)]
      have hos : (⟨#[dgt m]⟩ : ByteArray).size + out.size ≤ 9223372036854775807 := by have e : (⟨#[dgt m]⟩ : ByteArray).size = 1 := rfl; omega
      have hdp := dgs_pos hm out
      repeat' ((first
        | (refine iAL ?_; first | refine AL.any ?_ | refine AL.nil ?_)
        | (refine iAW ?_; first | (refine AW.c0 ?_; constructor) | refine AW.cT ?_ | refine AW.cF ?_ | (refine AW.c2 ?_ ?_ <;> (intro h; try simp only [bT, bF] at h)))
        | with_reducible refine ifP ?_
        | with_reducible refine ifN ?_) <;> (try dsimp only))
      all_goals (refine ⟨(m / 10, ⟨#[dgt m]⟩ ++ out), _, ⟨by rw [← hdp]; exact hd, ?_⟩, ?_, ?_, rfl, ?_, ?_⟩)
      · dsimp only
        rw [ByteArray.size_append]
        have e : (⟨#[dgt m]⟩ : ByteArray).size = 1 := rfl
        omega
      · dsimp only
        omega
      · (refine wkj ?_; repeat' with_reducible constructor) <;> first | rfl | (rw [hq])
      · (repeat' (first | exact Fits.nil _ | refine Fits.cons ?_ ?_ | exact Fits.any _ | exact Fits.c _ _ | exact Fits.own (by rfl) | exact Fits.ref (by rfl) | exact Fits.clo (by assumption) | exact Fits.clo (clo_of (by rfl)) | exact Fits.clo (clo_fn _)))
      · exact FitsM.nil _

def imk (k : Int) (_ : Int) : Int := k
def ict (_ : Int) : Nat := 1
theorem ict_pos (x : Int) : 1 ≤ ict x := Nat.le_refl _
def TPoint.ct (x : TPoint) : Nat := 2
def TPoint.mrk (k : Int) (x : TPoint) : TPoint := ⟨k, k + 1⟩
theorem TPoint.ct_pos (x : TPoint) : 1 ≤ x.ct := by unfold TPoint.ct; omega
def TFeature.ct (x : TFeature) : Nat := 4 + ctL TPoint.ct x.points
def TFeature.mrk (k : Int) (x : TFeature) : TFeature := ⟨k, k + 1, k + 1 + 1, mtx (k + 1 + 1 + 1), mkL TPoint.mrk TPoint.ct (k + 1 + 1 + 1 + 1) x.points⟩
theorem TFeature.ct_pos (x : TFeature) : 1 ≤ x.ct := by unfold TFeature.ct; omega
def TEntry.ct (x : TEntry) : Nat := 7 + ctL TPoint.ct x.feature.points
def TEntry.mrk (k : Int) (x : TEntry) : TEntry := ⟨⟨k, k + 1, k + 1 + 1, mtx (k + 1 + 1 + 1), mkL TPoint.mrk TPoint.ct (k + 1 + 1 + 1 + 1) x.feature.points⟩, k + 1 + 1 + 1 + 1 + ((ctL TPoint.ct x.feature.points : Nat) : Int), k + 1 + 1 + 1 + 1 + ((ctL TPoint.ct x.feature.points : Nat) : Int) + 1, ((k + 1 + 1 + 1 + 1 + ((ctL TPoint.ct x.feature.points : Nat) : Int) + 1 + 1).tmod 3 == 0)⟩
theorem TEntry.ct_pos (x : TEntry) : 1 ≤ x.ct := by unfold TEntry.ct; omega
def TLevel.ct (x : TLevel) : Nat := 3
def TLevel.mrk (k : Int) (x : TLevel) : TLevel := ⟨k, k + 1, k + 1 + 1⟩
theorem TLevel.ct_pos (x : TLevel) : 1 ≤ x.ct := by unfold TLevel.ct; omega
def TEdition.ct (x : TEdition) : Nat := 2 + ctL TFeature.ct x.source
def TEdition.mrk (k : Int) (x : TEdition) : TEdition := ⟨k, mkL TFeature.mrk TFeature.ct (k + 1) x.source, k + 1 + ((ctL TFeature.ct x.source : Nat) : Int)⟩
theorem TEdition.ct_pos (x : TEdition) : 1 ≤ x.ct := by unfold TEdition.ct; omega
theorem markIntS (ty : TypeId) (l : List Int) (k : Int) (h0 : 0 ≤ k) (hb : k + ((ctL ict l : Nat) : Int) ≤ 4611686018427387904) : ACalls Tryz.prog 33 [.own 0 0, I k] [some ⟨ty, 1, 0, false, l.map enI0⟩] (fun r M => r = I (k + ((ctL ict l : Nat) : Int)) ∧ ∃ Mx, M = [(⟨ty, 1, 0, false, (mkL imk ict k l).map enI0⟩ : Blk)].map some ++ Mx) := by
  have hll := len_ctL ict_pos l
  refine ACalls.body Tryz.func33 rfl 17 rfl (fun E hE => ?_)
  simp only [List.reduceReplicate, List.cons_append, List.nil_append]
  repeat' ((first
    | (refine iAL ?_; first | refine AL.any ?_ | refine AL.nil ?_)
    | (refine iAW ?_; first | (refine AW.c0 ?_; constructor) | (refine AW.loopE (fun i : Nat => [.own 0 0, I (k + ((ctL ict (l.take i) : Nat) : Int)), .any, .any, .any, I (i : Int), .any, .any, .any, .any, .any, .any, .any, .any, .any, .any, .any, .any, .any]) (fun i => [some ⟨ty, 1, 0, false, (mkd imk ict k l i).map enI0⟩]) (fun i => by rw [hE]; exact Nat.le_refl _) (fun i => l.length - i) (fun i => i ≤ l.length) 0 (Nat.zero_le _) ?_ (by rw [mkd_zero] <;> rfl) ?_))) <;> (try dsimp only))
  · (refine wkj ?_; repeat' with_reducible constructor) <;> first | rfl | (simp [ctL])
  · intro i hi
    by_cases hlt : i < l.length
    · obtain ⟨x, hx⟩ : ∃ x, l[i]? = some x := ⟨_, List.getElem?_eq_getElem hlt⟩
      have hn := next_ix hlt (by omega)
      obtain ⟨K, hK⟩ : ∃ K, K = k + ((ctL ict (l.take i) : Nat) : Int) := ⟨_, rfl⟩
      rw [← hK]
      have hct := ctL_le (ct := ict) hx
      have hcs := ctL_take (ct := ict) hx
      have hcx : ict x = 1 := rfl
      have hw0 : IntKind.i64.wrap (K + 1) = K + 1 := w64 (by omega) (by omega)
      have hend : K + 1 = k + ((ctL ict (l.take (i + 1)) : Nat) : Int) := by omega
      have hms : (mkd imk ict k l (i + 1)).map enI0 = ((mkd imk ict k l i).map enI0).set ((i : Int)).toNat (enI0 (imk K x)) := by rw [mkd_succ hx, List.map_set, toNat_ix, hK]
      obtain ⟨A, hA⟩ : ∃ A, A = (mkd imk ict k l i).map enI0 := ⟨_, rfl⟩
      rw [← hA] at hms
      have hAl : A.length = l.length := by rw [hA, List.length_map, mkd_len hi]
      have hix : ((i : Int)).toNat < A.length := by rw [toNat_ix]; omega
      have hself : A.set ((i : Int)).toNat (enI0 x) = A := by
        rw [toNat_ix]
        exact set_self_of (by rw [hA, List.getElem?_map, mkd_get hx]; rfl)
      have htA : ∀ r : List AV, decide ((i : Int) < ((A.set ((i : Int)).toNat r).length : Int)) = true := fun r => by rw [List.length_set]; simp; omega
      rw [← hA, ← hself]
      dsimp only [enI0]
      repeat' ((first
        | (refine iAL ?_; first | refine AL.any ?_ | refine AL.nil ?_)
        | (refine iAW ?_; first | (rw [hw0]) | (refine AW.c0 ?_; constructor) | (refine AW.cT ?_ (hb := htA _)) | (refine AW.cF ?_ (hb := htA _)) | refine AW.cT ?_ | refine AW.cF ?_ | (refine AW.c2 ?_ ?_ <;> (intro h; try simp only [bT, bF] at h)))
        | with_reducible refine ifP ?_
        | with_reducible refine ifN ?_) <;> (try dsimp only))
      all_goals (refine ⟨i + 1, [], hlt, by omega, ?_, ?_, ?_, ?_⟩; (focus ((refine wkj ?_; repeat' with_reducible constructor) <;> first | rfl | (rw [hend]) | (rw [hn]))); (focus (rw [hms] <;> rfl)); (focus ((repeat' (first | exact Fits.nil _ | refine Fits.cons ?_ ?_ | exact Fits.any _ | exact Fits.c _ _ | exact Fits.own (by rfl) | exact Fits.ref (by rfl) | exact Fits.clo (by assumption) | exact Fits.clo (clo_of (by rfl)) | exact Fits.clo (clo_fn _))))); (focus (exact fits_dcl (DCl.map (fun _ => rfl)))))
    · have e : i = l.length := by omega
      subst e
      have hml : (mkd imk ict k l l.length).length = l.length := mkd_len (Nat.le_refl _)
      have ht : decide ((l.length : Int) < ((((mkd imk ict k l l.length).map enI0).length : Nat) : Int)) = false := by rw [List.length_map, hml]; simp
      rw [List.take_length]
      repeat' ((first
        | (refine iAL ?_; first | refine AL.any ?_ | refine AL.nil ?_)
        | (refine iAW ?_; first | (refine AW.c0 ?_; constructor) | (refine AW.cT ?_ (hb := ht)) | (refine AW.cF ?_ (hb := ht)) | refine AW.cT ?_ | refine AW.cF ?_ | (refine AW.c2 ?_ ?_ <;> (intro h; try simp only [bT, bF] at h)))
        | with_reducible refine ifP ?_
        | with_reducible refine ifN ?_) <;> (try dsimp only))
      all_goals exact FinA.one rfl (RV.tmp (by rfl)) ⟨rfl, [], by rw [mkd_all] <;> rfl⟩

theorem heldIntS (l : List Int) (k : Int) (h0 : 0 ≤ k) (hb : k + ((ctL ict l : Nat) : Int) ≤ 4611686018427387904) : VCalls Tryz.prog 34 [.ro 1 ((mkL imk ict k l).map enI0), I k] (fun r M => r = I (k + ((ctL ict l : Nat) : Int)) ∧ M = []) := by
  have hll := len_ctL ict_pos l
  have hclo : Clo (.ro 1 ((mkL imk ict k l).map enI0)) := clo_list (fun _ => clo_cons (clo_c _) clo_nil)
  refine VCalls.bodyE Tryz.func34 rfl 19 rfl (fun E hE => ?_)
  simp only [List.reduceReplicate, List.cons_append, List.nil_append]
  repeat' ((first
    | (refine iAL ?_; first | refine AL.any ?_ | refine AL.nil ?_)
    | (refine iAW ?_; first | (refine AW.c0 ?_; constructor) | (refine AW.loopD hE (fun i : Nat => [.ro 1 ((mkL imk ict k l).map enI0), I (k + ((ctL ict (l.take i) : Nat) : Int)), .any, .any, .any, I (i : Int), .any, .any, .any, .any, .any, .any, .any, .any, .any, .any, .any, .any, .any, .any, .any]) (fun i => []) (fun i => l.length - i) (fun i => i ≤ l.length) 0 (Nat.zero_le _) ?_ rfl ?_))) <;> (try dsimp only))
  · (refine wkj ?_; repeat' with_reducible constructor) <;> first | rfl | (simp [ctL])
  · intro i hi
    by_cases hlt : i < l.length
    · obtain ⟨x, hx⟩ : ∃ x, l[i]? = some x := ⟨_, List.getElem?_eq_getElem hlt⟩
      have hn := next_ix hlt (by omega)
      obtain ⟨K, hK⟩ : ∃ K, K = k + ((ctL ict (l.take i) : Nat) : Int) := ⟨_, rfl⟩
      rw [← hK]
      have hct := ctL_le (ct := ict) hx
      have hcs := ctL_take (ct := ict) hx
      have hgm := map_get (f := enI0) (mkL_get (mk := imk) (ct := ict) (k := k) hx)
      rw [← hK] at hgm
      dsimp only [imk, enI0] at hgm
      have hcx : ict x = 1 := rfl
      have hw0 : IntKind.i64.wrap (K + 1) = K + 1 := w64 (by omega) (by omega)
      have hend : K + 1 = k + ((ctL ict (l.take (i + 1)) : Nat) : Int) := by omega
      have ht : decide ((i : Int) < ((((mkL imk ict k l).map enI0).length : Nat) : Int)) = true := by rw [List.length_map, mkL_len]; simp; omega
      repeat' ((first
        | (refine iAL ?_; first | refine AL.any ?_ | refine AL.nil ?_)
        | (refine iAW ?_; first | (rw [hw0]) | (refine AW.c0 ?_; constructor) | refine AW.cT ?_ | refine AW.cF ?_ | (refine AW.c2 ?_ ?_ <;> (intro h; try simp only [bT, bF] at h)))
        | with_reducible refine ifP ?_
        | with_reducible refine ifN ?_) <;> (try dsimp only))
      all_goals (refine ⟨i + 1, [], hlt, by omega, ?_, rfl, ?_, ?_⟩; (focus ((refine wkj ?_; repeat' with_reducible constructor) <;> first | rfl | (rw [hend]) | (rw [hn]))); (focus ((repeat' (first | exact Fits.nil _ | refine Fits.cons ?_ ?_ | exact Fits.any _ | exact Fits.c _ _ | exact Fits.own (by rfl) | exact Fits.ref (by rfl) | exact Fits.clo (by assumption) | exact Fits.clo (clo_of (by rfl)) | exact Fits.clo (clo_fn _))))); (focus (exact FitsM.nil _)))
    · have e : i = l.length := by omega
      subst e
      have ht : decide ((l.length : Int) < ((((mkL imk ict k l).map enI0).length : Nat) : Int)) = false := by rw [List.length_map, mkL_len]; simp
      rw [List.take_length]
      repeat' ((first
        | (refine iAL ?_; first | refine AL.any ?_ | refine AL.nil ?_)
        | (refine iAW ?_; first | (refine AW.c0 ?_; constructor) | refine AW.cT ?_ | refine AW.cF ?_ | (refine AW.c2 ?_ ?_ <;> (intro h; try simp only [bT, bF] at h)))
        | with_reducible refine ifP ?_
        | with_reducible refine ifN ?_) <;> (try dsimp only))
      all_goals exact Fin.one rfl (RV.tmp (by rfl)) (clo_c _) ⟨rfl, rfl⟩

theorem markPointS (ty : TypeId) (l : List TPoint) (k : Int) (h0 : 0 ≤ k) (hb : k + ((ctL TPoint.ct l : Nat) : Int) ≤ 4611686018427387904) : ACalls Tryz.prog 83 [.own 0 0, I k] [some ⟨ty, 2, 0, false, l.map TPoint.en⟩] (fun r M => r = I (k + ((ctL TPoint.ct l : Nat) : Int)) ∧ ∃ Mx, M = [(⟨ty, 2, 0, false, (mkL TPoint.mrk TPoint.ct k l).map TPoint.en⟩ : Blk)].map some ++ Mx) := by
  have hll := len_ctL TPoint.ct_pos l
  refine ACalls.body Tryz.func83 rfl 25 rfl (fun E hE => ?_)
  simp only [List.reduceReplicate, List.cons_append, List.nil_append]
  repeat' ((first
    | (refine iAL ?_; first | refine AL.any ?_ | refine AL.nil ?_)
    | (refine iAW ?_; first | (refine AW.c0 ?_; constructor) | (refine AW.loopE (fun i : Nat => [.own 0 0, I (k + ((ctL TPoint.ct (l.take i) : Nat) : Int)), .any, .any, .any, I (i : Int), .any, .any, .any, .any, .any, .any, .any, .any, .any, .any, .any, .any, .any, .any, .any, .any, .any, .any, .any, .any, .any]) (fun i => [some ⟨ty, 2, 0, false, (mkd TPoint.mrk TPoint.ct k l i).map TPoint.en⟩]) (fun i => by rw [hE]; exact Nat.le_refl _) (fun i => l.length - i) (fun i => i ≤ l.length) 0 (Nat.zero_le _) ?_ (by rw [mkd_zero] <;> rfl) ?_))) <;> (try dsimp only))
  · (refine wkj ?_; repeat' with_reducible constructor) <;> first | rfl | (simp [ctL])
  · intro i hi
    by_cases hlt : i < l.length
    · obtain ⟨x, hx⟩ : ∃ x, l[i]? = some x := ⟨_, List.getElem?_eq_getElem hlt⟩
      have hn := next_ix hlt (by omega)
      obtain ⟨K, hK⟩ : ∃ K, K = k + ((ctL TPoint.ct (l.take i) : Nat) : Int) := ⟨_, rfl⟩
      rw [← hK]
      have hct := ctL_le (ct := TPoint.ct) hx
      have hcs := ctL_take (ct := TPoint.ct) hx
      have hcx : TPoint.ct x = 2 := rfl
      have hw0 : IntKind.i64.wrap (K + 1) = K + 1 := w64 (by omega) (by omega)
      have hw1 : IntKind.i64.wrap (K + 1 + 1) = K + 1 + 1 := w64 (by omega) (by omega)
      have hend : K + 1 + 1 = k + ((ctL TPoint.ct (l.take (i + 1)) : Nat) : Int) := by omega
      have hms : (mkd TPoint.mrk TPoint.ct k l (i + 1)).map TPoint.en = ((mkd TPoint.mrk TPoint.ct k l i).map TPoint.en).set ((i : Int)).toNat (TPoint.en (TPoint.mrk K x)) := by rw [mkd_succ hx, List.map_set, toNat_ix, hK]
      obtain ⟨A, hA⟩ : ∃ A, A = (mkd TPoint.mrk TPoint.ct k l i).map TPoint.en := ⟨_, rfl⟩
      rw [← hA] at hms
      have hAl : A.length = l.length := by rw [hA, List.length_map, mkd_len hi]
      have hix : ((i : Int)).toNat < A.length := by rw [toNat_ix]; omega
      have hself : A.set ((i : Int)).toNat (TPoint.en x) = A := by
        rw [toNat_ix]
        exact set_self_of (by rw [hA, List.getElem?_map, mkd_get hx]; rfl)
      have htA : ∀ r : List AV, decide ((i : Int) < ((A.set ((i : Int)).toNat r).length : Int)) = true := fun r => by rw [List.length_set]; simp; omega
      rw [← hA, ← hself]
      dsimp only [TPoint.en]
      repeat' ((first
        | (refine iAL ?_; first | refine AL.any ?_ | refine AL.nil ?_)
        | (refine iAW ?_; first | (rw [hw0]) | (rw [hw1]) | (refine AW.c0 ?_; constructor) | (refine AW.cT ?_ (hb := htA _)) | (refine AW.cF ?_ (hb := htA _)) | refine AW.cT ?_ | refine AW.cF ?_ | (refine AW.c2 ?_ ?_ <;> (intro h; try simp only [bT, bF] at h)))
        | with_reducible refine ifP ?_
        | with_reducible refine ifN ?_) <;> (try dsimp only))
      all_goals (refine ⟨i + 1, [], hlt, by omega, ?_, ?_, ?_, ?_⟩; (focus ((refine wkj ?_; repeat' with_reducible constructor) <;> first | rfl | (rw [hend]) | (rw [hn]))); (focus (rw [hms] <;> rfl)); (focus ((repeat' (first | exact Fits.nil _ | refine Fits.cons ?_ ?_ | exact Fits.any _ | exact Fits.c _ _ | exact Fits.own (by rfl) | exact Fits.ref (by rfl) | exact Fits.clo (by assumption) | exact Fits.clo (clo_of (by rfl)) | exact Fits.clo (clo_fn _))))); (focus (exact fits_dcl (DCl.map (fun _ => rfl)))))
    · have e : i = l.length := by omega
      subst e
      have hml : (mkd TPoint.mrk TPoint.ct k l l.length).length = l.length := mkd_len (Nat.le_refl _)
      have ht : decide ((l.length : Int) < ((((mkd TPoint.mrk TPoint.ct k l l.length).map TPoint.en).length : Nat) : Int)) = false := by rw [List.length_map, hml]; simp
      rw [List.take_length]
      repeat' ((first
        | (refine iAL ?_; first | refine AL.any ?_ | refine AL.nil ?_)
        | (refine iAW ?_; first | (refine AW.c0 ?_; constructor) | (refine AW.cT ?_ (hb := ht)) | (refine AW.cF ?_ (hb := ht)) | refine AW.cT ?_ | refine AW.cF ?_ | (refine AW.c2 ?_ ?_ <;> (intro h; try simp only [bT, bF] at h)))
        | with_reducible refine ifP ?_
        | with_reducible refine ifN ?_) <;> (try dsimp only))
      all_goals exact FinA.one rfl (RV.tmp (by rfl)) ⟨rfl, [], by rw [mkd_all] <;> rfl⟩

theorem markFeatureS (ty : TypeId) (l : List TFeature) (k : Int) (h0 : 0 ≤ k) (hb : k + ((ctL TFeature.ct l : Nat) : Int) ≤ 4611686018427387904) : ACalls Tryz.prog 31 [.own 0 0, I k] [some ⟨ty, 5, 0, false, l.map TFeature.ed⟩] (fun r M => r = I (k + ((ctL TFeature.ct l : Nat) : Int)) ∧ ∃ Mx, M = [(⟨ty, 5, 0, false, (mkL TFeature.mrk TFeature.ct k l).map TFeature.ed⟩ : Blk)].map some ++ Mx) := by
  have hll := len_ctL TFeature.ct_pos l
  refine ACalls.body Tryz.func31 rfl 47 rfl (fun E hE => ?_)
  simp only [List.reduceReplicate, List.cons_append, List.nil_append]
  repeat' ((first
    | (refine iAL ?_; first | refine AL.any ?_ | refine AL.nil ?_)
    | (refine iAW ?_; first | (refine AW.c0 ?_; constructor) | (refine AW.loopE (fun i : Nat => [.own 0 0, I (k + ((ctL TFeature.ct (l.take i) : Nat) : Int)), .any, .any, .any, I (i : Int), .any, .any, .any, .any, .any, .any, .any, .any, .any, .any, .any, .any, .any, .any, .any, .any, .any, .any, .any, .any, .any, .any, .any, .any, .any, .any, .any, .any, .any, .any, .any, .any, .any, .any, .any, .any, .any, .any, .any, .any, .any, .any, .any]) (fun i => [some ⟨ty, 5, 0, false, (mkd TFeature.mrk TFeature.ct k l i).map TFeature.ed⟩]) (fun i => by rw [hE]; exact Nat.le_refl _) (fun i => l.length - i) (fun i => i ≤ l.length) 0 (Nat.zero_le _) ?_ (by rw [mkd_zero] <;> rfl) ?_))) <;> (try dsimp only))
  · (refine wkj ?_; repeat' with_reducible constructor) <;> first | rfl | (simp [ctL])
  · intro i hi
    by_cases hlt : i < l.length
    · obtain ⟨x, hx⟩ : ∃ x, l[i]? = some x := ⟨_, List.getElem?_eq_getElem hlt⟩
      have hn := next_ix hlt (by omega)
      obtain ⟨K, hK⟩ : ∃ K, K = k + ((ctL TFeature.ct (l.take i) : Nat) : Int) := ⟨_, rfl⟩
      rw [← hK]
      have hct := ctL_le (ct := TFeature.ct) hx
      have hcs := ctL_take (ct := TFeature.ct) hx
      have hcx : TFeature.ct x = 4 + ctL TPoint.ct x.points := rfl
      have hw0 : IntKind.i64.wrap (K + 1) = K + 1 := w64 (by omega) (by omega)
      have hw1 : IntKind.i64.wrap (K + 1 + 1) = K + 1 + 1 := w64 (by omega) (by omega)
      have hw2 : IntKind.i64.wrap (K + 1 + 1 + 1) = K + 1 + 1 + 1 := w64 (by omega) (by omega)
      have hw3 : IntKind.i64.wrap (K + 1 + 1 + 1 + 1) = K + 1 + 1 + 1 + 1 := w64 (by omega) (by omega)
      have hend : K + 1 + 1 + 1 + 1 + ((ctL TPoint.ct x.points : Nat) : Int) = k + ((ctL TFeature.ct (l.take (i + 1)) : Nat) : Int) := by omega
      have hms : (mkd TFeature.mrk TFeature.ct k l (i + 1)).map TFeature.ed = ((mkd TFeature.mrk TFeature.ct k l i).map TFeature.ed).set ((i : Int)).toNat (TFeature.ed (TFeature.mrk K x)) := by rw [mkd_succ hx, List.map_set, toNat_ix, hK]
      obtain ⟨A, hA⟩ : ∃ A, A = (mkd TFeature.mrk TFeature.ct k l i).map TFeature.ed := ⟨_, rfl⟩
      rw [← hA] at hms
      have hAl : A.length = l.length := by rw [hA, List.length_map, mkd_len hi]
      have hix : ((i : Int)).toNat < A.length := by rw [toNat_ix]; omega
      have hself : A.set ((i : Int)).toNat (TFeature.ed x) = A := by
        rw [toNat_ix]
        exact set_self_of (by rw [hA, List.getElem?_map, mkd_get hx]; rfl)
      have htA : ∀ r : List AV, decide ((i : Int) < ((A.set ((i : Int)).toNat r).length : Int)) = true := fun r => by rw [List.length_set]; simp; omega
      rw [← hA, ← hself]
      dsimp only [TFeature.ed]
      refine AW.ghE (GhE.exposeS (q := 0) (i := ((i : Int)).toNat) (j := 4) rfl hix rfl TPoint.dpr) (fun ty1 => ?_)
      dsimp only [List.set, List.length, List.cons_append, List.nil_append, List.append, Nat.zero_add, Nat.reduceAdd]
      repeat' ((first
        | (refine iAL ?_; first | refine AL.any (h := POp.gh (POp.H [1] Tryz.func83 (hc := markPointS ty1 x.points (K + 1 + 1 + 1 + 1) (by omega) (by omega))) (Gh.absorbS (q := 0) (id := 1) (j := 4) rfl (by assumption) rfl rfl rfl rfl rfl (DCl.map (fun _ => rfl)) TPoint.und)) ?_ | refine AL.any ?_ | refine AL.any (h := POp.k Tryz.func82 (hc := markText _ (by omega) (by omega))) ?_ | refine AL.nil ?_)
        | (refine iAW ?_; first | (rw [hw0]) | (rw [hw1]) | (rw [hw2]) | (rw [hw3]) | (refine AW.c0 ?_; constructor) | (refine AW.cT ?_ (hb := htA _)) | (refine AW.cF ?_ (hb := htA _)) | refine AW.cT ?_ | refine AW.cF ?_ | (refine AW.c2 ?_ ?_ <;> (intro h; try simp only [bT, bF] at h)))
        | with_reducible refine ifP ?_
        | with_reducible refine ifN ?_) <;> (try dsimp only))
      all_goals (refine ⟨i + 1, [none], hlt, by omega, ?_, ?_, ?_, ?_⟩; (focus ((refine wkj ?_; repeat' with_reducible constructor) <;> first | rfl | (rw [hend]) | (rw [hn]))); (focus (rw [hms] <;> rfl)); (focus ((repeat' (first | exact Fits.nil _ | refine Fits.cons ?_ ?_ | exact Fits.any _ | exact Fits.c _ _ | exact Fits.own (by rfl) | exact Fits.ref (by rfl) | exact Fits.clo (by assumption) | exact Fits.clo (clo_of (by rfl)) | exact Fits.clo (clo_fn _))))); (focus (exact fits_dcl (DCl.map (fun _ => rfl)))))
    · have e : i = l.length := by omega
      subst e
      have hml : (mkd TFeature.mrk TFeature.ct k l l.length).length = l.length := mkd_len (Nat.le_refl _)
      have ht : decide ((l.length : Int) < ((((mkd TFeature.mrk TFeature.ct k l l.length).map TFeature.ed).length : Nat) : Int)) = false := by rw [List.length_map, hml]; simp
      rw [List.take_length]
      repeat' ((first
        | (refine iAL ?_; first | refine AL.any ?_ | refine AL.any (h := POp.k Tryz.func82 (hc := markText _ (by omega) (by omega))) ?_ | refine AL.nil ?_)
        | (refine iAW ?_; first | (refine AW.c0 ?_; constructor) | (refine AW.cT ?_ (hb := ht)) | (refine AW.cF ?_ (hb := ht)) | refine AW.cT ?_ | refine AW.cF ?_ | (refine AW.c2 ?_ ?_ <;> (intro h; try simp only [bT, bF] at h)))
        | with_reducible refine ifP ?_
        | with_reducible refine ifN ?_) <;> (try dsimp only))
      all_goals exact FinA.one rfl (RV.tmp (by rfl)) ⟨rfl, [], by rw [mkd_all] <;> rfl⟩

theorem markLevelS (ty : TypeId) (l : List TLevel) (k : Int) (h0 : 0 ≤ k) (hb : k + ((ctL TLevel.ct l : Nat) : Int) ≤ 4611686018427387904) : ACalls Tryz.prog 32 [.own 0 0, I k] [some ⟨ty, 3, 0, false, l.map TLevel.en⟩] (fun r M => r = I (k + ((ctL TLevel.ct l : Nat) : Int)) ∧ ∃ Mx, M = [(⟨ty, 3, 0, false, (mkL TLevel.mrk TLevel.ct k l).map TLevel.en⟩ : Blk)].map some ++ Mx) := by
  have hll := len_ctL TLevel.ct_pos l
  refine ACalls.body Tryz.func32 rfl 32 rfl (fun E hE => ?_)
  simp only [List.reduceReplicate, List.cons_append, List.nil_append]
  repeat' ((first
    | (refine iAL ?_; first | refine AL.any ?_ | refine AL.nil ?_)
    | (refine iAW ?_; first | (refine AW.c0 ?_; constructor) | (refine AW.loopE (fun i : Nat => [.own 0 0, I (k + ((ctL TLevel.ct (l.take i) : Nat) : Int)), .any, .any, .any, I (i : Int), .any, .any, .any, .any, .any, .any, .any, .any, .any, .any, .any, .any, .any, .any, .any, .any, .any, .any, .any, .any, .any, .any, .any, .any, .any, .any, .any, .any]) (fun i => [some ⟨ty, 3, 0, false, (mkd TLevel.mrk TLevel.ct k l i).map TLevel.en⟩]) (fun i => by rw [hE]; exact Nat.le_refl _) (fun i => l.length - i) (fun i => i ≤ l.length) 0 (Nat.zero_le _) ?_ (by rw [mkd_zero] <;> rfl) ?_))) <;> (try dsimp only))
  · (refine wkj ?_; repeat' with_reducible constructor) <;> first | rfl | (simp [ctL])
  · intro i hi
    by_cases hlt : i < l.length
    · obtain ⟨x, hx⟩ : ∃ x, l[i]? = some x := ⟨_, List.getElem?_eq_getElem hlt⟩
      have hn := next_ix hlt (by omega)
      obtain ⟨K, hK⟩ : ∃ K, K = k + ((ctL TLevel.ct (l.take i) : Nat) : Int) := ⟨_, rfl⟩
      rw [← hK]
      have hct := ctL_le (ct := TLevel.ct) hx
      have hcs := ctL_take (ct := TLevel.ct) hx
      have hcx : TLevel.ct x = 3 := rfl
      have hw0 : IntKind.i64.wrap (K + 1) = K + 1 := w64 (by omega) (by omega)
      have hw1 : IntKind.i64.wrap (K + 1 + 1) = K + 1 + 1 := w64 (by omega) (by omega)
      have hw2 : IntKind.i64.wrap (K + 1 + 1 + 1) = K + 1 + 1 + 1 := w64 (by omega) (by omega)
      have hend : K + 1 + 1 + 1 = k + ((ctL TLevel.ct (l.take (i + 1)) : Nat) : Int) := by omega
      have hms : (mkd TLevel.mrk TLevel.ct k l (i + 1)).map TLevel.en = ((mkd TLevel.mrk TLevel.ct k l i).map TLevel.en).set ((i : Int)).toNat (TLevel.en (TLevel.mrk K x)) := by rw [mkd_succ hx, List.map_set, toNat_ix, hK]
      obtain ⟨A, hA⟩ : ∃ A, A = (mkd TLevel.mrk TLevel.ct k l i).map TLevel.en := ⟨_, rfl⟩
      rw [← hA] at hms
      have hAl : A.length = l.length := by rw [hA, List.length_map, mkd_len hi]
      have hix : ((i : Int)).toNat < A.length := by rw [toNat_ix]; omega
      have hself : A.set ((i : Int)).toNat (TLevel.en x) = A := by
        rw [toNat_ix]
        exact set_self_of (by rw [hA, List.getElem?_map, mkd_get hx]; rfl)
      have htA : ∀ r : List AV, decide ((i : Int) < ((A.set ((i : Int)).toNat r).length : Int)) = true := fun r => by rw [List.length_set]; simp; omega
      rw [← hA, ← hself]
      dsimp only [TLevel.en]
      repeat' ((first
        | (refine iAL ?_; first | refine AL.any ?_ | refine AL.nil ?_)
        | (refine iAW ?_; first | (rw [hw0]) | (rw [hw1]) | (rw [hw2]) | (refine AW.c0 ?_; constructor) | (refine AW.cT ?_ (hb := htA _)) | (refine AW.cF ?_ (hb := htA _)) | refine AW.cT ?_ | refine AW.cF ?_ | (refine AW.c2 ?_ ?_ <;> (intro h; try simp only [bT, bF] at h)))
        | with_reducible refine ifP ?_
        | with_reducible refine ifN ?_) <;> (try dsimp only))
      all_goals (refine ⟨i + 1, [], hlt, by omega, ?_, ?_, ?_, ?_⟩; (focus ((refine wkj ?_; repeat' with_reducible constructor) <;> first | rfl | (rw [hend]) | (rw [hn]))); (focus (rw [hms] <;> rfl)); (focus ((repeat' (first | exact Fits.nil _ | refine Fits.cons ?_ ?_ | exact Fits.any _ | exact Fits.c _ _ | exact Fits.own (by rfl) | exact Fits.ref (by rfl) | exact Fits.clo (by assumption) | exact Fits.clo (clo_of (by rfl)) | exact Fits.clo (clo_fn _))))); (focus (exact fits_dcl (DCl.map (fun _ => rfl)))))
    · have e : i = l.length := by omega
      subst e
      have hml : (mkd TLevel.mrk TLevel.ct k l l.length).length = l.length := mkd_len (Nat.le_refl _)
      have ht : decide ((l.length : Int) < ((((mkd TLevel.mrk TLevel.ct k l l.length).map TLevel.en).length : Nat) : Int)) = false := by rw [List.length_map, hml]; simp
      rw [List.take_length]
      repeat' ((first
        | (refine iAL ?_; first | refine AL.any ?_ | refine AL.nil ?_)
        | (refine iAW ?_; first | (refine AW.c0 ?_; constructor) | (refine AW.cT ?_ (hb := ht)) | (refine AW.cF ?_ (hb := ht)) | refine AW.cT ?_ | refine AW.cF ?_ | (refine AW.c2 ?_ ?_ <;> (intro h; try simp only [bT, bF] at h)))
        | with_reducible refine ifP ?_
        | with_reducible refine ifN ?_) <;> (try dsimp only))
      all_goals exact FinA.one rfl (RV.tmp (by rfl)) ⟨rfl, [], by rw [mkd_all] <;> rfl⟩

theorem ictL : ∀ (l : List Int), ctL ict l = l.length
  | [] => rfl
  | x :: l => by rw [ctL, ictL l, List.length_cons, ict]; omega
theorem ctL_pt (l : List TPoint) : ctL TPoint.ct l ≤ l.length * 2 := ctL_bd fun _ _ => Nat.le_refl 2
theorem ctL_ft {l : List TFeature} (hl : l.length ≤ 1048576) (hp : ∀ x ∈ l, x.points.length ≤ 1048576) : ctL TFeature.ct l ≤ 2199027449856 := by
  have h := ctL_bd (ct := TFeature.ct) (c := 2097156) (l := l) fun x hx => by
    have h1 := ctL_pt x.points
    have h2 := hp x hx
    unfold TFeature.ct
    omega
  omega

theorem clonePoint (l : List TPoint) (hl : l.length ≤ 1048576) : VCalls Tryz.prog 178 [.ro 2 (l.map TPoint.en)] (fun r M => r = .own 0 0 ∧ M = [some ⟨141, 2, 0, false, l.map TPoint.en⟩]) := by
  refine VB Tryz.func178 7 (fun E hE => ?_)
  have hclo : Clo (.ro 2 (l.map TPoint.en)) := clo_list TPoint.clo_en
  repeat' ((first
    | (refine iAL ?_; first | refine AL.any ?_ | refine AL.nil ?_)
    | (refine iAW ?_; first | (refine AW.adoptRet (t := 2) 141 2 rfl Adopt.nil ?_) | (refine AW.c0 ?_; constructor) | (refine AW.c2 ?_ ?_ <;> (intro h; try simp only [bT, bF] at h)))
    | ((refine AL.isnil (by rfl) (by rfl) (TT_ok.sl _ _ (by rfl)) (by rfl) (fun bn hbn => ?_)); dsimp only [sh0_own, sh0_c, sh1_own, sh1_c, sh1_agg, shA_own, shA_c, shA_agg, shA_tup, dput, List.set, cond_true, cond_false, Nat.zero_add, Nat.add_zero, Nat.reduceAdd, splice, List.take, List.drop, List.length, List.nil_append, List.cons_append, List.append, TPoint.en, TSegment.en, TBox.en, TFeature.en, TMeet.en, TPlace.en, TCover.en, TLabel.en, TPiece.en, TLevel.en, TChart.en, TReason.en, TEdit.en, TEntry.en, TEdition.en, TListing.en, TAtlas.en, TEvent.en, TWindow.en])) <;> (try dsimp only))
  all_goals exact Fin.r1 [0] rfl (RV.tmp (by rfl)) ⟨rfl, by first | rfl | (rw [hbn (by assumption)] <;> rfl)⟩

theorem cloneF (x : TFeature) (hs : x.sm) : VCalls Tryz.prog 118 [.agg x.en] (fun r M => r = .agg x.eo ∧ M = x.rw) := by
  refine VB Tryz.func118 7 (fun E hE => ?_)
  have hclo0 : Clo (.ro 2 (x.points.map TPoint.en)) := clo_list TPoint.clo_en
  have hcle : Clo (.agg x.en) := Clo.agg x.clo_en
  have hsl : x.points.length ≤ 1048576 := hs
  dsimp only [TFeature.en]
  repeat' ((first
    | (refine iAL ?_; first | refine AL.any ?_ | refine AL.any (h := POp.O Tryz.func178 (hc := clonePoint _ (by assumption))) ?_ | refine AL.nil ?_)
    | (refine iAW ?_; (refine AW.c0 ?_; constructor))) <;> (try dsimp only))
  all_goals exact Fin.r1 [2] rfl (RV.cell (QOp.quietA TT_ok (by rfl))) ⟨rfl, rfl⟩

theorem cloneF_s (x : TFeature) (hs : x.sm) : VCalls Tryz.prog 108 [.agg x.en] (fun r M => r = .agg x.eo ∧ M = x.rw) := by
  refine VB Tryz.func108 8 (fun E hE => ?_)
  have hclo0 : Clo (.ro 2 (x.points.map TPoint.en)) := clo_list TPoint.clo_en
  have hcle : Clo (.agg x.en) := Clo.agg x.clo_en
  have hsl : x.points.length ≤ 1048576 := hs
  dsimp only [TFeature.en]
  repeat' ((first
    | (refine iAL ?_; first | refine AL.any ?_ | refine AL.nil ?_)
    | (refine iAW ?_; (refine AW.c0 ?_; constructor))) <;> (try dsimp only))
  all_goals exact Fin.r1 [2] rfl (RV.cell (QOp.quietA TT_ok (by rfl))) ⟨rfl, rfl⟩

theorem cloneF_s' (x : TFeature) (hs : x.sm) : VCalls Tryz.prog 108 [.agg x.en] (fun r M => r = .agg x.en ∧ M = []) := VCalls.frz (cloneF_s x hs) (by repeat' (first | exact VwL.nil | refine VwL.cons ?_ ?_ | (refine View.own (by rfl) (by rfl) (by rfl) (by rfl) ?_ ?_ <;> first | exact DCl.b rfl | exact DCl.map (fun _ => rfl) | assumption | rfl | exact TPoint.und | exact TSegment.und | exact TBox.und | exact TFeature.und | exact TMeet.und | exact TPlace.und | exact TCover.und | exact TLabel.und | exact TPiece.und | exact TLevel.und | exact TChart.und | exact TReason.und | exact TEdit.und | exact TEntry.und | exact TEdition.und | exact TListing.und | exact TAtlas.und | exact TEvent.und | exact TWindow.und | exact und_nil | exact und_I | assumption) | refine View.agg' ?_ | exact View.same (by first | exact clo_of (by rfl) | assumption | exact clo_fn _) | exact View.nil))
theorem stbP (l : List TPlace) (hp : PlOk l) : ACalls Tryz.prog 311 [.own 0 0, I ((l.map TPlace.en).length : Int), .fn 280 []] [some ⟨187, 4, 0, false, (l).map TPlace.en⟩] (fun r M => r = .c (.tuple #[]) ∧ ∃ Mx, M = [⟨187, 4, 0, false, (srtA l).map TPlace.en⟩].map some ++ Mx) := by
  refine ACalls.unit ?_
  have hpl := hp.len
  have a1 := True.intro
  refine ACalls.body Tryz.func311 rfl 60 rfl (fun E hE => ?_)
  simp only [List.reduceReplicate, List.cons_append, List.nil_append]
  repeat' ((first
    | (refine iAL ?_; first | refine AL.any ?_ | refine AL.any (h := POp.H [0] Tryz.func330 (hc := insP l (by assumption))) ?_ | refine AL.nil ?_)
    | (refine iAW ?_; first | (refine AW.c0 ?_; constructor) | refine AW.cF ?_)
    | (
  have _ := a1
  clear a1
  refine AW.loopE (fun s_ : Nat => [.own 0 0, I ((l.map TPlace.en).length : Int), .fn 280 [], .any, .any, .any, I 20, I 0, I 20, .any, .any, .any, .any, .any, .any, .any, .any, .any, .any, .any, .any, .any, .any, .any, .any, .any, .any, .any, .any, .any, .any, .any, .any, .any, .any, .any, .any, .any, .any, .any, .any, .any, .any, .any, .any, .any, .any, .any, .any, .any, .any, .any, .any, .any, .any, .any, .any, .any, .any, .any, .any, .any, .any]) (fun s_ => [some ⟨187, 4, 0, false, (l).map TPlace.en⟩]) (fun s_ => by rw [hE]; exact Nat.le_refl _) (fun s_ => 0) (fun s_ => True) 0 trivial ?_ (by first | rfl | (rfl)) ?_
  (focus (exact wkI))
  rintro q hJ
  try dsimp only at hJ
  try dsimp only
  by_cases hlt : False
  case' pos =>
    have b1 := True.intro
    exact hlt.elim
  case' neg =>
    have a2 := True.intro
    have ht : decide ((20 : Int) ≤ ((l.map TPlace.en).length : Int)) = false := by rw [List.length_map]; simp; omega)
    | (
  have _ := a2
  clear a2
  refine AW.loopE (fun s_ : Nat => [.own 0 0, I ((l.map TPlace.en).length : Int), .fn 280 [], .any, .any, .any, I 20, I 0, I 20, .any, .any, .any, .any, .any, .any, .any, .any, .any, .any, .any, .any, .any, .any, .any, .any, .any, .any, .any, .any, .any, .any, .any, .any, .any, .any, .any, .any, .any, .any, .any, .any, .any, .any, .any, .any, .any, .any, .any, .any, .any, .any, .any, .any, .any, .any, .any, .any, .any, .any, .any, .any, .any, .any]) (fun s_ => [some ⟨187, 4, 0, false, (srtA l).map TPlace.en⟩]) (fun s_ => by rw [hE]; exact Nat.le_refl _) (fun s_ => 0) (fun s_ => True) 0 trivial ?_ (by first | rfl | (rfl)) ?_
  (focus (exact wkI))
  rintro q hJ
  try dsimp only at hJ
  try dsimp only
  by_cases hlt : False
  case' pos =>
    have b2 := True.intro
    exact hlt.elim
  case' neg =>
    have c2 := True.intro
    have ht : decide ((20 : Int) < ((l.map TPlace.en).length : Int)) = false := by rw [List.length_map]; simp; omega)
    | with_reducible refine ifP ?_) <;> (try dsimp only))
  all_goals exact ⟨by first | exact .inl rfl | exact .inr rfl, _, ResA.none rfl, rfl, [], rfl⟩

theorem ssfP (l : List TPlace) (hp : PlOk l) : ACalls Tryz.prog 279 [.own 0 0, .fn 280 []] [some ⟨187, 4, 0, false, (l).map TPlace.en⟩] (fun r M => r = .c (.tuple #[]) ∧ ∃ Mx, M = [⟨187, 4, 0, false, (srtA l).map TPlace.en⟩].map some ++ Mx) := by
  refine ACalls.unit ?_
  have hpl := hp.len
  have a1 := True.intro
  refine ACalls.body Tryz.func279 rfl 7 rfl (fun E hE => ?_)
  simp only [List.reduceReplicate, List.cons_append, List.nil_append]
  repeat' ((first
    | (refine iAL ?_; first | refine AL.any ?_ | refine AL.any (h := POp.H [0] Tryz.func311 (hc := stbP l (by assumption))) ?_ | refine AL.nil ?_)
    | (refine iAW ?_; (refine AW.c0 ?_; constructor))) <;> (try dsimp only))
  all_goals exact ⟨by first | exact .inl rfl | exact .inr rfl, _, ResA.none rfl, rfl, [], rfl⟩

theorem clonePlace (l : List TPlace) (hl : l.length ≤ 1048576) : VCalls Tryz.prog 278 [.ro 4 (l.map TPlace.en)] (fun r M => r = .own 0 0 ∧ M = [some ⟨187, 4, 0, false, l.map TPlace.en⟩]) := by
  refine VB Tryz.func278 7 (fun E hE => ?_)
  have hclo : Clo (.ro 4 (l.map TPlace.en)) := clo_list TPlace.clo_en
  repeat' ((first
    | (refine iAL ?_; first | refine AL.any ?_ | refine AL.nil ?_)
    | (refine iAW ?_; first | (refine AW.adoptRet (t := 2) 187 4 rfl Adopt.nil ?_) | (refine AW.c0 ?_; constructor) | (refine AW.c2 ?_ ?_ <;> (intro h; try simp only [bT, bF] at h)))
    | ((refine AL.isnil (by rfl) (by rfl) (TT_ok.sl _ _ (by rfl)) (by rfl) (fun bn hbn => ?_)); dsimp only [sh0_own, sh0_c, sh1_own, sh1_c, sh1_agg, shA_own, shA_c, shA_agg, shA_tup, dput, List.set, cond_true, cond_false, Nat.zero_add, Nat.add_zero, Nat.reduceAdd, splice, List.take, List.drop, List.length, List.nil_append, List.cons_append, List.append, TPoint.en, TSegment.en, TBox.en, TFeature.en, TMeet.en, TPlace.en, TCover.en, TLabel.en, TPiece.en, TLevel.en, TChart.en, TReason.en, TEdit.en, TEntry.en, TEdition.en, TListing.en, TAtlas.en, TEvent.en, TWindow.en])) <;> (try dsimp only))
  all_goals exact Fin.r1 [0] rfl (RV.tmp (by rfl)) ⟨rfl, by first | rfl | (rw [hbn (by assumption)] <;> rfl)⟩

theorem frAb (l : List TPlace) (hp : PlOk l) : VCalls Tryz.prog 211 [.ro 4 (l.map TPlace.en)] (fun r M => r = .own 0 0 ∧ M = [some ⟨187, 4, 0, false, (srtA l).map TPlace.en⟩]) := by
  refine VB Tryz.func211 8 (fun E hE => ?_)
  have hclo : Clo (.ro 4 (l.map TPlace.en)) := clo_list TPlace.clo_en
  have hpl := hp.len
  have hl1 : l.length ≤ 1048576 := by omega
  repeat' ((first
    | (refine iAL ?_; first | refine AL.any ?_ | refine AL.any (h := POp.O Tryz.func278 (hc := clonePlace _ (by assumption))) ?_ | refine AL.any (h := POp.H [0] Tryz.func279 (hc := ssfP l (by assumption))) ?_ | refine AL.nil ?_)
    | (refine iAW ?_; (refine AW.c0 ?_; constructor))) <;> (try dsimp only))
  all_goals exact Fin.r1 [0] rfl (RV.tmp (by rfl)) ⟨rfl, rfl⟩

theorem frAb' (l : List TPlace) (hp : PlOk l) : VCalls Tryz.prog 211 [.ro 4 (l.map TPlace.en)] (fun r M => r = .ro 4 ((srtA l).map TPlace.en) ∧ M = []) := VCalls.frz (frAb l hp) vwlT
theorem kept_s (l : List TPlace) (far : Int) (hp : PlOk l) (hfar : inr far 0 200 = true) : VCalls Tryz.prog 203 [.ro 4 (l.map TPlace.en), I far] (fun r M => r = .ro 4 ((kept (srtA l) far).map TPlace.en) ∧ M = []) := by
  refine VB Tryz.func203 90 (fun E hE => ?_)
  have a1 := True.intro
  have hpl := hp.len
  have hclo : Clo (.ro 4 (l.map TPlace.en)) := clo_list TPlace.clo_en
  repeat' ((first
    | (refine iAL ?_; first | refine AL.any ?_ | refine AL.F ?_ | refine AL.T ?_ | refine AL.T (h := POp.k Tryz.func227 (hc := above_s x y)) ?_ | refine AL.nil ?_)
    | ((with_reducible show DL ..); first | refine DL.any ?_ | refine DL.F ?_ | refine DL.T ?_ | refine DL.T (h := POp.k Tryz.func228 (hc := far_s y.at_ x.at_ (by assumption) (by assumption))) ?_ | refine DL.nil ?_)
    | ((with_reducible show DLR ..); first | refine DLR.any ?_ | refine DLR.row rfl (fun Y => RowRun.empty (by rfl) (by rfl) (by first | exact rwk22 | exact rwk23 | exact rwk24 | exact rwk31 | exact rwk32 | exact rwk33 | exact rwk45 | exact rwk63 | exact rwk79 | exact rwk183)) rfl rfl ?_ | refine DLR.append rfl (by rfl) (by first | exact rwk22 | exact rwk23 | exact rwk24 | exact rwk31 | exact rwk32 | exact rwk33 | exact rwk45 | exact rwk63 | exact rwk79 | exact rwk183) (by rfl) rfl rfl rfl rfl rfl rfl (by rfl) (by first | (simp <;> omega) | omega) (by first | (simp [maxLen] <;> omega) | (simp_all [maxLen] <;> omega)) ?_ | refine DLR.nil ?_)
    | (refine iAW ?_; first | (refine AW.freeze /-Ret-/ (t := 5) (id := 0) rfl rfl rfl rfl clo_rows_nil ?_; try dsimp only [dput, List.set, cond_true, cond_false, Nat.zero_add, Nat.add_zero, Nat.reduceAdd, splice, List.take, List.drop, List.length, List.nil_append, List.cons_append, List.append, TPoint.en, TSegment.en, TBox.en, TFeature.en, TMeet.en, TPlace.en, TCover.en, TLabel.en, TPiece.en, TLevel.en, TChart.en, TReason.en, TEdit.en, TEntry.en, TEdition.en, TListing.en, TAtlas.en, TEvent.en, TWindow.en]) | (refine AW.freeze /-Ret-/ (t := 5) (id := 1) rfl rfl rfl rfl hcr ?_; try dsimp only [dput, List.set, cond_true, cond_false, Nat.zero_add, Nat.add_zero, Nat.reduceAdd, splice, List.take, List.drop, List.length, List.nil_append, List.cons_append, List.append, TPoint.en, TSegment.en, TBox.en, TFeature.en, TMeet.en, TPlace.en, TCover.en, TLabel.en, TPiece.en, TLevel.en, TChart.en, TReason.en, TEdit.en, TEntry.en, TEdition.en, TListing.en, TAtlas.en, TEvent.en, TWindow.en]) | (refine AW.freezeRet (t := 4) (id := 1) rfl rfl rfl rfl (clo_rows TPlace.clo_en) ?_; (try simp only [List.take_length]); try dsimp only [dput, List.set, cond_true, cond_false, Nat.zero_add, Nat.add_zero, Nat.reduceAdd, splice, List.take, List.drop, List.length, List.nil_append, List.cons_append, List.append, TPoint.en, TSegment.en, TBox.en, TFeature.en, TMeet.en, TPlace.en, TCover.en, TLabel.en, TPiece.en, TLevel.en, TChart.en, TReason.en, TEdit.en, TEntry.en, TEdition.en, TListing.en, TAtlas.en, TEvent.en, TWindow.en]) | (refine AW.c0 ?_; constructor) | refine AW.dr (id := 6) 12 ?_ | refine AW.drawnR (id := 8) 14 1 [some 0, none, none, none, some 0, none, none, none, none, none, some 0, none, none, none] [some Rsv] rfl (by kernel_rfl) (by kernel_rfl) (by kernel_rfl) (by rfl) ?_ | refine AW.dr (id := 17) 16 ?_ | refine AW.cT ?_ | refine AW.cF ?_)
    | ((with_reducible show DL ..); refine DL.T (h := POp.quiet (QOp.fld_ref (off := 1) (n := 1) (by rfl) (by rfl) (by rfl) (by rfl) (by kernel_rfl))) ?_)
    | ((with_reducible show DLR ..); first | refine DLR.any (h := fun Y => POp.quiet (QOp.cut_h (by rfl) slk183 (by rfl) (by rfl) (by first | decide | omega) (by first | assumption | omega) (by assumption))) ?_ | refine DLR.any (h := fun Y => POp.quiet (QOp.cut_l (by rfl) slk183 (by rfl) (by rfl) (by first | decide | omega) (by first | assumption | omega) (by assumption))) ?_ | refine DLR.any (h := fun Y => POp.lit0 (RowRun.literal (by rfl) rwk183 (by rfl) (by rfl) (by rfl) (by rfl) (by rfl) (by rfl)) (clo_rows_b rfl)) ?_)
    | (
  have _ := a1
  clear a1
  refine AW.loopD hE (fun s_ : Nat => (.ro 4 (l.map TPlace.en) :: I far :: .any :: .any :: .any :: .ro 4 ((srtTo l s_).map TPlace.en) :: I (s_ : Int) :: .any :: .any :: .any :: .any :: .any :: .any :: .any :: .any :: .any :: .any :: .any :: .any :: .any :: .any :: .any :: .any :: .any :: .any :: .any :: .any :: .any :: .any :: .any :: .any :: .any :: .any :: .any :: .any :: .any :: .any :: .any :: .any :: .any :: .any :: .any :: .any :: .any :: .any :: .any :: .any :: .any :: .any :: .any :: .any :: .any :: .any :: .any :: .any :: .any :: .any :: .any :: .any :: .any :: .any :: .any :: .any :: .any :: .any :: .any :: .any :: .any :: .any :: .any :: .any :: .any :: .any :: .any :: .any :: .any :: .any :: .any :: .any :: .any :: .any :: .any :: .any :: .any :: .any :: .any :: .any :: .any :: .any :: .any :: .any :: .any :: [])) (fun s_ => [none]) (fun s_ => l.length - s_) (fun s_ => s_ ≤ l.length) 0 (Nat.zero_le _) ?_ (by first | rfl | (rfl)) ?_
  (focus ((refine wkj ?_; repeat' with_reducible constructor) <;> first | rfl | (simp [srtTo])))
  rintro i hJ
  try dsimp only at hJ
  try dsimp only
  by_cases hlt : i < l.length
  case' pos =>
    have a2 := True.intro
    obtain ⟨x, hx⟩ := getD_some (l := l) (i := i) hlt
    have hg := map_get (f := TPlace.en) hx
    have ht := lt_true (f := TPlace.en) hlt
    have hn := next_ix hlt (by omega)
    have hxm := List.mem_of_getElem? hx
    have hxo := (hp.ok x hxm).2.1
    have hcle : Clo (.agg x.en) := Clo.agg x.clo_en
    have hsl := srtTo_len (l := l) (i := i) (by omega)
    have hclS : Clo (.ro 4 ((srtTo l i).map TPlace.en)) := clo_list TPlace.clo_en
  case' neg =>
    have a3 := True.intro
    have ht := lt_false (f := TPlace.en) hlt
    obtain rfl : i = l.length := by omega
    rw [srtTo_all]
    have hsl := srtA_len l
    have hclS : Clo (.ro 4 ((srtA l).map TPlace.en)) := clo_list TPlace.clo_en)
    | (
  have _ := a2
  clear a2
  refine AW.loopD hE (fun s_ : Nat => (.ro 4 (l.map TPlace.en) :: I far :: .any :: .any :: .any :: .ro 4 ((srtTo l i).map TPlace.en) :: I (i : Int) :: I (s_ : Int) :: .any :: .any :: .any :: .any :: .any :: .any :: .any :: .any :: .any :: .any :: .any :: .any :: .any :: .any :: .any :: .any :: .any :: .any :: .any :: .any :: .any :: .any :: .any :: .any :: .any :: .any :: .any :: .any :: .any :: .any :: .any :: .any :: .any :: .any :: .any :: .any :: .any :: .any :: .any :: .any :: .any :: .any :: .any :: .any :: .any :: .any :: .any :: .any :: .any :: .any :: .any :: .any :: .any :: .any :: .any :: .any :: .any :: .any :: .any :: .any :: .any :: .any :: .any :: .any :: .any :: .any :: .any :: .any :: .any :: .any :: .any :: .any :: .any :: .any :: .any :: .any :: .any :: .any :: .any :: .any :: .any :: .any :: .any :: .any :: [])) (fun s_ => [none]) (fun s_ => s_ - posR (fun y => above x y) (srtTo l i)) (fun s_ => posR (fun y => above x y) (srtTo l i) ≤ s_ ∧ s_ ≤ (srtTo l i).length) (srtTo l i).length ⟨posR_le _ _, Nat.le_refl _⟩ ?_ (by first | rfl | (rfl)) ?_
  (focus (exact wkI))
  rintro k hJ
  try dsimp only at hJ
  try dsimp only
  by_cases hlt : posR (fun y => above x y) (srtTo l i) < k
  case' pos =>
    have p2 := True.intro
    obtain ⟨y, hy⟩ := getD_some (l := (srtTo l i)) (i := k - 1) (by omega)
    obtain ⟨z1, z2, z3⟩ := ix_dn (k := k) (by omega) (by omega)
    have hgy : ((srtTo l i).map TPlace.en)[(IntKind.i64.wrap ((k : Int) - 1)).toNat]? = some y.en := by rw [z3, List.getElem?_map, hy]; rfl
    have hk : decide ((k : Int) > 0) = true := by simp; omega
    have hpy := posR_ge (p := (fun y => above x y)) (l := (srtTo l i)) (i := k - 1) (by omega) hy
    try dsimp only at hpy
  case' neg =>
    have q2 := True.intro
    have ek : posR (fun y => above x y) (srtTo l i) = k := by omega
    have hK1 : ((k : Nat) : Int) ≤ (((srtTo l i).map TPlace.en).length : Int) := by rw [List.length_map]; omega
    have hd0 : ((srtTo l i).map TPlace.en).drop ((k : Nat) : Int).toNat = ((srtTo l i).drop k).map TPlace.en := by rw [Int.toNat_natCast, List.map_drop]
    have ht0 : ((srtTo l i).map TPlace.en).take ((k : Nat) : Int).toNat = ((srtTo l i).take k).map TPlace.en := by rw [Int.toNat_natCast, List.map_take]
    have hc1 : Clo (.ro 4 (((srtTo l i).take k).map TPlace.en)) := clo_list TPlace.clo_en
    have hc2 : Clo (.ro 4 (((srtTo l i).drop k).map TPlace.en)) := clo_list TPlace.clo_en
    have hl1 : ((srtTo l i).take k).length ≤ 1048576 := by rw [List.length_take]; omega
    have hl2 : ((srtTo l i).drop k).length ≤ 1048576 := by rw [List.length_drop]; omega
    have hap : (srtTo l (i + 1)).map TPlace.en = ((srtTo l i).take k).map TPlace.en ++ [[I x.id, I x.at_.x, I x.at_.y, I x.rank]] ++ ((srtTo l i).drop k).map TPlace.en := by rw [srtTo_succ hx, insA_map, ek]; rfl
    have hclT : Clo (.ro 4 ((srtTo l (i + 1)).map TPlace.en)) := clo_list TPlace.clo_en
    have hcr : ∀ r ∈ ((srtTo l i).take k).map TPlace.en ++ [[I x.id, I x.at_.x, I x.at_.y, I x.rank]] ++ ((srtTo l i).drop k).map TPlace.en, ∀ y ∈ r, Clo y := hap ▸ clo_rows TPlace.clo_en
    rcases Nat.eq_zero_or_pos k with h0 | h0
    case' inl =>
      subst h0
      have hk : decide (((0 : Nat) : Int) > 0) = false := by decide
    case' inr =>
      obtain ⟨y, hy⟩ := getD_some (l := (srtTo l i)) (i := k - 1) (by omega)
      obtain ⟨z1, z2, z3⟩ := ix_dn (k := k) (by omega) (by omega)
      have hgy : ((srtTo l i).map TPlace.en)[(IntKind.i64.wrap ((k : Int) - 1)).toNat]? = some y.en := by rw [z3, List.getElem?_map, hy]; rfl
      have hk : decide ((k : Int) > 0) = true := by simp; omega
      have hpy := posR_lt (p := (fun y => above x y)) (l := (srtTo l i)) (y := y) (by omega) (by rw [ek]; exact hy)
      try dsimp only at hpy)
    | (
  have _ := a3
  clear a3
  refine AW.loopD hE (fun s_ : Nat => (.any :: I far :: .any :: .any :: .any :: .ro 4 ((srtA l).map TPlace.en) :: .any :: .any :: .own 1 (keptTo (srtA l) far s_).length :: I (s_ : Int) :: .any :: .any :: .any :: .any :: .any :: .any :: .any :: .any :: .any :: .any :: .any :: .any :: .any :: .any :: .any :: .any :: .any :: .any :: .any :: .any :: .any :: .any :: .any :: .any :: .any :: .any :: .any :: .any :: .any :: .any :: .any :: .any :: .any :: .any :: .any :: .any :: .any :: .any :: .any :: .any :: .any :: .any :: .any :: .any :: .any :: .any :: .any :: .any :: .any :: .any :: .any :: .any :: .any :: .any :: .any :: .any :: .any :: .any :: .any :: .any :: .any :: .any :: .any :: .any :: .any :: .any :: .any :: .any :: .any :: .any :: .any :: .any :: .any :: .any :: .any :: .any :: .any :: .any :: .any :: .any :: .any :: .any :: [])) (fun s_ => [none, some ⟨187, 4, (keptTo (srtA l) far s_).length, false, (keptTo (srtA l) far s_).map TPlace.en⟩]) (fun s_ => l.length - s_) (fun s_ => s_ ≤ l.length) 0 (Nat.zero_le _) ?_ (by first | rfl | (rfl)) ?_
  (focus ((refine wkj ?_; repeat' with_reducible constructor) <;> first | rfl | (simp [keptTo])))
  rintro j hJ
  try dsimp only at hJ
  try dsimp only
  by_cases hlt : j < l.length
  case' pos =>
    have a4 := True.intro
    obtain ⟨x, hx⟩ := getD_some (l := srtA l) (i := j) (by omega)
    have hg := map_get (f := TPlace.en) hx
    have ht : decide ((j : Int) < (((srtA l).map TPlace.en).length : Int)) = true := by simp; omega
    have hn := next_ix hlt (by omega)
    have hxm := (srtA_perm l).mem_iff.1 (List.mem_of_getElem? hx)
    have hxo := (hp.ok x hxm).2.1
    have hcle : Clo (.agg x.en) := Clo.agg x.clo_en
    have hkl := keptTo_len (srtA l) far j
  case' neg =>
    have q3 := True.intro
    have ht : decide ((j : Int) < (((srtA l).map TPlace.en).length : Int)) = false := by simp; omega
    obtain rfl : j = l.length := by omega
    have hka : keptTo (srtA l) far l.length = kept (srtA l) far := by rw [← srtA_len l, keptTo_all])
    | (
  have _ := a4
  clear a4
  refine AW.loopD hE (fun s_ : Nat => (.any :: I far :: .any :: .any :: .any :: .ro 4 ((srtA l).map TPlace.en) :: .any :: .any :: .own 1 (keptTo (srtA l) far j).length :: I (j : Int) :: B (((keptTo (srtA l) far j).take s_).all (farOk far x)) :: I (s_ : Int) :: .any :: .any :: .any :: .any :: .any :: .any :: .any :: .any :: .any :: .any :: .any :: .any :: .any :: .any :: .any :: .any :: .any :: .any :: .any :: .any :: .any :: .any :: .any :: .any :: .any :: .any :: .any :: .any :: .any :: .any :: .any :: .any :: .any :: .any :: .any :: .any :: .any :: .any :: .any :: .any :: .any :: .any :: .any :: .any :: .any :: .any :: .any :: .any :: .any :: .any :: .any :: .any :: .any :: .any :: .any :: .any :: .any :: .any :: .any :: .any :: .any :: .any :: .any :: .any :: .any :: .any :: .any :: .any :: .any :: .any :: .any :: .any :: .any :: .any :: .any :: .any :: .any :: .any :: .any :: .any :: [])) (fun s_ => [none, some ⟨187, 4, (keptTo (srtA l) far j).length, false, (keptTo (srtA l) far j).map TPlace.en⟩]) (fun s_ => (keptTo (srtA l) far j).length - s_) (fun s_ => s_ ≤ (keptTo (srtA l) far j).length) 0 (Nat.zero_le _) ?_ (by first | rfl | (rfl)) ?_
  (focus (exact wkI))
  rintro k hJ
  try dsimp only at hJ
  try dsimp only
  by_cases hlt : k < (keptTo (srtA l) far j).length
  case' pos =>
    have p4 := True.intro
    obtain ⟨y, hy⟩ := getD_some (l := (keptTo (srtA l) far j)) (i := k) hlt
    have hgy : ((keptTo (srtA l) far j).map TPlace.en)[((k : Int)).toNat]? = some y.en := by rw [Int.toNat_natCast, List.getElem?_map, hy]; rfl
    have hty := lt_true (f := TPlace.en) hlt
    have hny := next_ix hlt (by omega)
    have hyo := (hp.ok y ((srtA_perm l).mem_iff.1 (keptTo_mem (List.mem_of_getElem? hy)))).2.1
    have hky : decide (far2 y.at_ x.at_ ≥ IntKind.i64.wrap (far * far)) = farOk far x y := by rw [(far_sq hfar).1]; rfl
    have hcly : Clo (.agg y.en) := Clo.agg y.clo_en
    have hixk : (k : Int) < (((keptTo (srtA l) far j).map TPlace.en).length : Int) := by rw [List.length_map]; omega
    rcases Bool.eq_false_or_eq_true (((keptTo (srtA l) far j).take k).all (farOk far x)) with hb | hb
    case' inl => have hat := (all_take_y (p := farOk far x) hy hb).trans hky.symm
    case' inr => have hat := all_take_n (p := farOk far x) hy hb
  case' neg =>
    have q4 := True.intro
    have hty := lt_false (f := TPlace.en) hlt
    obtain rfl : k = (keptTo (srtA l) far j).length := by omega
    rw [List.take_length]
    rcases Bool.eq_false_or_eq_true ((keptTo (srtA l) far j).all (farOk far x)) with hb | hb
    case' inl => obtain ⟨hm, hm2⟩ := keptTo_y (far := far) hx hb
    case' inr => obtain ⟨hm, hm2⟩ := keptTo_n (far := far) hx hb)) <;> (try dsimp only))
  all_goals first
    | (have _ := p2; refine ⟨k - 1, _, ⟨by omega, by omega⟩, by omega, ?_, rfl, ?_, ?_⟩; (focus ((refine wkj ?_; repeat' with_reducible constructor) <;> first | rfl | (rw [z2]; done))); (focus (exact fitsA)); (focus (exact fitsM_none (FitsM.nil _))))
    | (have _ := q2; refine ⟨i + 1, _, (by assumption), by omega, ?_, rfl, ?_, ?_⟩; (focus ((refine wkj ?_; repeat' with_reducible constructor) <;> first | rfl | (rw [hap] <;> rfl) | (rw [hn]; done))); (focus (exact fitsA)); (focus (exact fitsM_none (FitsM.nil _))))
    | (have _ := p4; refine ⟨k + 1, _, hlt, by omega, ?_, rfl, ?_, ?_⟩; (focus (exact wkH)); (focus (exact fitsA)); (focus (exact fitsM_none (fitsM_cons (clo_rows TPlace.clo_en) (FitsM.nil _)))))
    | (have _ := q4; refine ⟨j + 1, _, (by assumption), by omega, ?_, by rw [hm, hm2] <;> rfl, ?_, ?_⟩; (focus (exact wkH)); (focus (exact fitsA)); (focus (exact fitsM_none (fitsM_cons (clo_rows TPlace.clo_en) (FitsM.nil _)))))
    | (have _ := q3; exact Fin.one rfl (RV.tmp (by rfl)) (clo_list TPlace.clo_en) ⟨by rw [hka], rfl⟩)

theorem far_i' (x y : TPlace) (hx : isp x.at_.x x.at_.y = true) (hy : isp y.at_.x y.at_.y = true) : VCalls Tryz.prog 162 [.agg x.at_.en, .agg y.at_.en] (fun r M => r = I (far2 y.at_ x.at_) ∧ M = []) := far2_comm x.at_ y.at_ ▸ far_i x.at_ y.at_ hx hy
theorem kept_i (l : List TPlace) (far : Int) (hp : PlOk l) (hfar : inr far 0 200 = true) : VCalls Tryz.prog 231 [.ro 4 (l.map TPlace.en), I far] (fun r M => r = .own 0 0 ∧ M = [some ⟨187, 4, 0, false, (kept (srtA l) far).map TPlace.en⟩]) := by
  refine VB Tryz.func231 52 (fun E hE => ?_)
  have a3 := True.intro
  have hclS : Clo (.ro 4 ((srtA l).map TPlace.en)) := clo_list TPlace.clo_en
  have hclo : Clo (.ro 4 (l.map TPlace.en)) := clo_list TPlace.clo_en
  have hpl := hp.len
  have hsl := srtA_len l
  repeat' ((first
    | (refine iAL ?_; first | refine AL.any ?_ | refine AL.any (h := POp.k Tryz.func211 (hc := frAb' _ (by assumption))) ?_ | refine AL.any (h := POp.k Tryz.func288 (hc := arePl_i _ (by assumption))) ?_ | refine AL.F ?_ | refine AL.T ?_ | refine AL.T (h := POp.k Tryz.func145 (hc := inr_v _ _ _)) ?_ | refine AL.T (h := POp.k Tryz.func162 (hc := far_i' x y (by assumption) (by assumption))) ?_ | refine AL.nil ?_)
    | (refine iAW ?_; first | (refine AW.c0 ?_; constructor) | refine AW.cT ?_ | refine AW.cF ?_)
    | (
  have _ := a3
  clear a3
  refine AW.loopD hE (fun s_ : Nat => [.any, I far, .any, .any, .any, .own 0 (keptTo (srtA l) far s_).length, .any, .any, .any, .any, .any, .any, .any, .any, .any, .any, .any, .any, .any, .any, .any, .any, .ro 4 ((srtA l).map TPlace.en), I (((srtA l).map TPlace.en).length : Int), I (s_ : Int), .any, .any, .any, .any, .any, .any, .any, .any, .any, .any, .any, .any, .any, .any, .any, .any, .any, .any, .any, .any, .any, .any, .any, .any, .any, .any, .any, .any, .any]) (fun s_ => [some ⟨187, 4, (keptTo (srtA l) far s_).length, false, (keptTo (srtA l) far s_).map TPlace.en⟩]) (fun s_ => l.length - s_) (fun s_ => s_ ≤ l.length) 0 (Nat.zero_le _) ?_ (by first | rfl | (rfl)) ?_
  (focus ((refine wkj ?_; repeat' with_reducible constructor) <;> first | rfl | (simp [keptTo])))
  rintro j hJ
  try dsimp only at hJ
  try dsimp only
  by_cases hlt : j < l.length
  case' pos =>
    have a4 := True.intro
    obtain ⟨x, hx⟩ := getD_some (l := srtA l) (i := j) (by omega)
    have hg := map_get (f := TPlace.en) hx
    have ht : decide ((j : Int) < (((srtA l).map TPlace.en).length : Int)) = true := by simp; omega
    have hn := next_ix hlt (by omega)
    have hxm := (srtA_perm l).mem_iff.1 (List.mem_of_getElem? hx)
    have hxo := (hp.ok x hxm).2.1
    have hcle : Clo (.agg x.en) := Clo.agg x.clo_en
    have hkl := keptTo_len (srtA l) far j
  case' neg =>
    have q3 := True.intro
    have ht : decide ((j : Int) < (((srtA l).map TPlace.en).length : Int)) = false := by simp; omega
    obtain rfl : j = l.length := by omega
    have hka : keptTo (srtA l) far l.length = kept (srtA l) far := by rw [← srtA_len l, keptTo_all])
    | (
  have _ := a4
  clear a4
  refine AW.loopD hE (fun s_ : Nat => [.any, I far, .any, .any, .any, .own 0 (keptTo (srtA l) far j).length, .any, .ref 1 0 4 0 0, B (((keptTo (srtA l) far j).take s_).all (farOk far x)), .any, .any, .any, .any, .any, .any, .any, .any, .any, .any, .any, .any, .any, .ro 4 ((srtA l).map TPlace.en), I (((srtA l).map TPlace.en).length : Int), I (j : Int), .any, .any, .any, .own 0 (keptTo (srtA l) far j).length, I (((keptTo (srtA l) far j).map TPlace.en).length : Int), I (s_ : Int), .any, .any, .any, .any, .any, .any, .any, .any, .any, .any, .any, .any, .any, .any, .any, .any, .any, .any, .any, .any, .any, .any, .any]) (fun s_ => [some ⟨187, 4, (keptTo (srtA l) far j).length, false, (keptTo (srtA l) far j).map TPlace.en⟩, some ⟨187, 4, 0, true, [x.en]⟩]) (fun s_ => (keptTo (srtA l) far j).length - s_) (fun s_ => s_ ≤ (keptTo (srtA l) far j).length) 0 (Nat.zero_le _) ?_ (by first | rfl | (rfl)) ?_
  (focus (exact wkI))
  rintro k hJ
  try dsimp only at hJ
  try dsimp only
  by_cases hlt : k < (keptTo (srtA l) far j).length
  case' pos =>
    have p4 := True.intro
    obtain ⟨y, hy⟩ := getD_some (l := (keptTo (srtA l) far j)) (i := k) hlt
    have hgy : ((keptTo (srtA l) far j).map TPlace.en)[((k : Int)).toNat]? = some y.en := by rw [Int.toNat_natCast, List.getElem?_map, hy]; rfl
    have hty := lt_true (f := TPlace.en) hlt
    have hny := next_ix hlt (by omega)
    have hyo := (hp.ok y ((srtA_perm l).mem_iff.1 (keptTo_mem (List.mem_of_getElem? hy)))).2.1
    have hky : decide (far2 y.at_ x.at_ ≥ IntKind.i64.wrap (far * far)) = farOk far x y := by rw [(far_sq hfar).1]; rfl
    have hcly : Clo (.agg y.en) := Clo.agg y.clo_en
    have hixk : (k : Int) < (((keptTo (srtA l) far j).map TPlace.en).length : Int) := by rw [List.length_map]; omega
    rcases Bool.eq_false_or_eq_true (((keptTo (srtA l) far j).take k).all (farOk far x)) with hb | hb
    case' inl => have hat := (all_take_y (p := farOk far x) hy hb).trans hky.symm
    case' inr => have hat := all_take_n (p := farOk far x) hy hb
  case' neg =>
    have q4 := True.intro
    have hty := lt_false (f := TPlace.en) hlt
    obtain rfl : k = (keptTo (srtA l) far j).length := by omega
    rw [List.take_length]
    rcases Bool.eq_false_or_eq_true ((keptTo (srtA l) far j).all (farOk far x)) with hb | hb
    case' inl => obtain ⟨hm, hm2⟩ := keptTo_y (far := far) hx hb
    case' inr => obtain ⟨hm, hm2⟩ := keptTo_n (far := far) hx hb)) <;> (try dsimp only))
  all_goals first
    | (have _ := p4; refine ⟨k + 1, _, hlt, by omega, ?_, rfl, ?_, ?_⟩; (focus (exact wkH)); (focus (exact fitsA)); (focus (exact fitsM_cons (clo_rows TPlace.clo_en) (fitsM_cons (clo_one x.clo_en) (FitsM.nil _)))))
    | (have _ := q4; refine ⟨j + 1, _, (by assumption), by omega, ?_, by rw [hm, hm2] <;> rfl, ?_, ?_⟩; (focus (exact wkH)); (focus (exact fitsA)); (focus (exact fitsM_cons (clo_rows TPlace.clo_en) (FitsM.nil _))))
    | (have _ := q3; exact Fin.r1 [0] rfl (RV.tmp (by rfl)) ⟨rfl, by rw [hka] <;> rfl⟩)

theorem kept_i' (l : List TPlace) (far : Int) (hp : PlOk l) (hfar : inr far 0 200 = true) : VCalls Tryz.prog 231 [.ro 4 (l.map TPlace.en), I far] (fun r M => r = .ro 4 ((kept (srtA l) far).map TPlace.en) ∧ M = []) := VCalls.frz (kept_i l far hp hfar) vwlT
theorem thin_i (l : List TPlace) (far : Int) (hp : PlOk l) (hfar : inr far 0 200 = true) : VCalls Tryz.prog 208 [.ro 4 (l.map TPlace.en), I far] (fun r M => r = .own 0 0 ∧ M = [some ⟨3, 1, 0, false, (thinI l far).map enI⟩]) := by
  refine VB Tryz.func208 24 (fun E hE => ?_)
  have hclo : Clo (.ro 4 (l.map TPlace.en)) := clo_list TPlace.clo_en
  have hpl := hp.len
  have hkl := thin_len l far
  have hclK : Clo (.ro 4 (((kept (srtA l) far)).map TPlace.en)) := clo_list TPlace.clo_en
  repeat' ((first
    | (refine iAL ?_; first | refine AL.any ?_ | refine AL.any (h := POp.H [0] Tryz.func62 (hc := sortI ((kept (srtA l) far).map (·.id)) (by rw [List.length_map]; omega))) ?_ | refine AL.any (h := POp.k Tryz.func231 (hc := kept_i' _ _ (by assumption) (by assumption))) ?_ | refine AL.nil ?_)
    | (refine iAW ?_; first | (refine AW.c0 ?_; constructor) | refine AW.cT ?_ | refine AW.cF ?_)
    | (
  refine AW.loopD hE (fun i : Nat => [.any, .any, .any, .any, .any, .own 0 i, .any, .any, .any, .any, .any, .ro 4 (((kept (srtA l) far)).map TPlace.en), I (((kept (srtA l) far).map TPlace.en).length : Int), I (i : Int), .any, .any, .any, .any, .any, .any, .any, .any, .any, .any, .any, .any]) (fun i => [some ⟨3, 1, i, false, (((kept (srtA l) far).map (·.id)).take i).map enI⟩]) (fun i => (kept (srtA l) far).length - i) (fun i => i ≤ (kept (srtA l) far).length) 0 (by simp) ?_ (by first | rfl | (simp [fil_zero]; done)) ?_
  (focus (exact wkI))
  intro i hi
  by_cases hlt : i < (kept (srtA l) far).length
  case' pos =>
    have hP := True.intro
    obtain ⟨x, hx⟩ : ∃ x, (kept (srtA l) far)[i]? = some x := ⟨_, List.getElem?_eq_getElem hlt⟩
    have hg := map_get (f := TPlace.en) hx
    have ht := lt_true (f := TPlace.en) hlt
    have hn := next_ix hlt (by omega)
    have hid : ((kept (srtA l) far).map (·.id))[i]? = some x.id := by rw [List.getElem?_map, hx]; rfl
    have hm : (((kept (srtA l) far).map (·.id)).take (i + 1)).map enI = (((kept (srtA l) far).map (·.id)).take i).map enI ++ [[I x.id]] := by rw [take_succ_of hid, List.map_append]; rfl
  case' neg =>
    have hQ := True.intro
    have ht := lt_false (f := TPlace.en) hlt
    have e : i = (kept (srtA l) far).length := by omega
    subst e
    try rw [List.take_length]
    have htk : ((kept (srtA l) far).map (·.id)).take (kept (srtA l) far).length = ((kept (srtA l) far).map (·.id)) := by rw [← List.length_map (f := fun x : TPlace => x.id), List.take_length]
    rw [htk])) <;> (try dsimp only))
  all_goals first
    | (have _ := hP; (refine ⟨i + 1, _, hlt, by omega, ?_, by rw [hm] <;> rfl, ?_, ?_⟩; (focus (exact wkH)); (focus (exact fitsA)); (focus (exact fits_row (clo_rows clo_enI)))))
    | (have _ := hQ; exact Fin.r1 [0] rfl (RV.tmp (by rfl)) ⟨rfl, by unfold thinI; rw [← merge_put (thin_nodup hp far)] <;> rfl⟩)

theorem thin_s (l : List TPlace) (far : Int) (hp : PlOk l) (hfar : inr far 0 200 = true) : VCalls Tryz.prog 200 [.ro 4 (l.map TPlace.en), I far] (fun r M => r = .ro 1 ((thinI l far).map enI) ∧ M = []) := by
  refine VB Tryz.func200 33 (fun E hE => ?_)
  have hclo : Clo (.ro 4 (l.map TPlace.en)) := clo_list TPlace.clo_en
  have hpl := hp.len
  have hkl := thin_len l far
  have hclK : Clo (.ro 4 (((kept (srtA l) far)).map TPlace.en)) := clo_list TPlace.clo_en
  repeat' ((first
    | (refine iAL ?_; first | refine AL.any (h := POp.lit0 (RowRun.empty (by rfl) (by rfl) rwk56) clo_rows_nil) ?_ | refine AL.any ?_ | refine AL.any (h := POp.k Tryz.func54 (hc := put14_s' (putIs [] (((kept (srtA l) far).map (·.id)).take i)) x.id (by omega))) ?_ | refine AL.any (h := POp.k Tryz.func203 (hc := kept_s _ _ (by assumption) (by assumption))) ?_ | refine AL.any (h := POp.k Tryz.func268 (hc := arePl_s _ (by assumption))) ?_ | refine AL.T ?_ | refine AL.T (h := POp.k Tryz.func96 (hc := inr_s _ _ _)) ?_ | refine AL.nil ?_)
    | (refine iAW ?_; first | (refine AW.c0 ?_; constructor) | refine AW.cT ?_ | refine AW.cF ?_)
    | (
  refine AW.loopD hE (fun i : Nat => [.any, .any, .any, .any, .any, .ro 1 ((putIs [] (((kept (srtA l) far).map (·.id)).take i)).map enI), .ro 4 (((kept (srtA l) far)).map TPlace.en), I (i : Int), .any, .any, .any, .any, .any, .any, .any, .any, .any, .any, .any, .any, .any, .any, .any, .any, .any, .any, .any, .any, .any, .any, .any, .any, .any, .any, .any]) (fun i => []) (fun i => (kept (srtA l) far).length - i) (fun i => i ≤ (kept (srtA l) far).length) 0 (by simp) ?_ (by first | rfl | (simp [fil_zero]; done)) ?_
  (focus (exact wkI))
  intro i hi
  by_cases hlt : i < (kept (srtA l) far).length
  case' pos =>
    have hP := True.intro
    obtain ⟨x, hx⟩ : ∃ x, (kept (srtA l) far)[i]? = some x := ⟨_, List.getElem?_eq_getElem hlt⟩
    have hg := map_get (f := TPlace.en) hx
    have ht := lt_true (f := TPlace.en) hlt
    have hn := next_ix hlt (by omega)
    have hid : ((kept (srtA l) far).map (·.id))[i]? = some x.id := by rw [List.getElem?_map, hx]; rfl
    have hm : (((kept (srtA l) far).map (·.id)).take (i + 1)).map enI = (((kept (srtA l) far).map (·.id)).take i).map enI ++ [[I x.id]] := by rw [take_succ_of hid, List.map_append]; rfl
    have hps := putIs_take1 hid
    have hpl2 := putIs_len (((kept (srtA l) far).map (·.id)).take i) []
    have htl : (((kept (srtA l) far).map (·.id)).take i).length ≤ i := by rw [List.length_take]; omega
    have hpl3 : (putIs [] (((kept (srtA l) far).map (·.id)).take i)).length ≤ 1048576 := by simp only [List.length_nil] at hpl2; omega
    have hclA : Clo (.ro 1 ((putIs [] (((kept (srtA l) far).map (·.id)).take i)).map enI)) := clo_list clo_enI
    have hclB : Clo (.ro 1 ((putI (putIs [] (((kept (srtA l) far).map (·.id)).take i)) x.id).map enI)) := clo_list clo_enI
    have hclC : Clo (.ro 1 ((putIs [] (((kept (srtA l) far).map (·.id)).take (i + 1))).map enI)) := clo_list clo_enI
  case' neg =>
    have hQ := True.intro
    have ht := lt_false (f := TPlace.en) hlt
    have e : i = (kept (srtA l) far).length := by omega
    subst e
    try rw [List.take_length]
    have htk : ((kept (srtA l) far).map (·.id)).take (kept (srtA l) far).length = ((kept (srtA l) far).map (·.id)) := by rw [← List.length_map (f := fun x : TPlace => x.id), List.take_length]
    rw [htk])) <;> (try dsimp only))
  all_goals first
    | (have _ := hP; (refine ⟨i + 1, _, hlt, by omega, ?_, rfl, ?_, ?_⟩; (focus ((refine wkj ?_; repeat' with_reducible constructor) <;> (first | rfl | (rw [hn]; done) | (rw [hps]; done)))); (focus (exact fitsA)); (focus (exact FitsM.nil _))))
    | (have _ := hQ; exact Fin.one rfl (RV.tmp (by rfl)) (clo_list clo_enI) ⟨rfl, rfl⟩)

def has (l : List Int) (n : Int) : Bool := l.any fun y => y == n
theorem has_iff {l : List Int} {n : Int} : has l n = true ↔ n ∈ l := by simp [has]
theorem any_take_n {α : Type} {l : List α} {p : α → Bool} {i : Nat} {x : α} (hx : l[i]? = some x) (h : (l.take i).any p = false) (hp : p x = false) : (l.take (i + 1)).any p = false := by
  rw [take_succ_of hx, List.any_append, h]
  simp [hp]
theorem any_yes {α : Type} {l : List α} {p : α → Bool} {i : Nat} {x : α} (hx : l[i]? = some x) (hp : p x = true) : l.any p = true := List.any_eq_true.2 ⟨x, List.mem_of_getElem? hx, hp⟩
def ixI (l : List Int) (n : Int) : Int := if has l n = true then ((l.findIdx fun y => y == n : Nat) : Int) else -1
theorem findIdx_at {α : Type} {p : α → Bool} : ∀ {l : List α} {i : Nat} {x : α}, l[i]? = some x → p x = true → (l.take i).any p = false → l.findIdx p = i
  | [], i, x, hx, _, _ => by simp at hx
  | a :: l, 0, x, hx, hp, _ => by
    simp at hx
    subst hx
    rw [List.findIdx_cons, hp]
    rfl
  | a :: l, i + 1, x, hx, hp, hn => by
    rw [List.take_succ_cons, List.any_cons, Bool.or_eq_false_iff] at hn
    rw [List.findIdx_cons, hn.1, findIdx_at (by simpa using hx) hp hn.2]
    rfl
theorem ixI_y {l : List Int} {n : Int} {i : Nat} {x : Int} (hx : l[i]? = some x) (hp : (x == n) = true) (hn : ((l.take i).any fun y => y == n) = false) : ixI l n = (i : Int) := by
  rw [ixI, if_pos (show has l n = true from any_yes hx hp), findIdx_at hx hp hn]
theorem ixI_n {l : List Int} {n : Int} (hn : ((l.take l.length).any fun y => y == n) = false) : ixI l n = -1 := by
  rw [List.take_length] at hn
  rw [ixI, if_neg (by rw [has, hn]; decide)]
theorem ixI_ge (l : List Int) (n : Int) : decide (ixI l n ≥ 0) = has l n := by
  unfold ixI
  cases h : has l n
  · rw [if_neg (by decide)]; decide
  · rw [if_pos rfl]; simp
theorem beq_symm (a b : Int) : (a == b) = (b == a) := by
  rw [Bool.eq_iff_iff]
  simp
  exact ⟨fun h => h.symm, fun h => h.symm⟩
def rkdTo (l : List TFeature) (r : Int) (i : Nat) : List TFeature := (l.take i).filter fun x => decide (x.rank ≥ r)
def rkd (l : List TFeature) (r : Int) : List TFeature := l.filter fun x => decide (x.rank ≥ r)
theorem rkdTo_all (l : List TFeature) (r : Int) : rkdTo l r l.length = rkd l r := by rw [rkdTo, List.take_length]; rfl
theorem filt_y {α : Type} {l : List α} {p : α → Bool} {i : Nat} {x : α} (hx : l[i]? = some x) (h : p x = true) : (l.take (i + 1)).filter p = (l.take i).filter p ++ [x] := by
  rw [take_succ_of hx, List.filter_append]
  simp [List.filter_cons, h]
theorem filt_n {α : Type} {l : List α} {p : α → Bool} {i : Nat} {x : α} (hx : l[i]? = some x) (h : p x = false) : (l.take (i + 1)).filter p = (l.take i).filter p := by
  rw [take_succ_of hx, List.filter_append]
  simp [List.filter_cons, h]
theorem filt_len {α : Type} (l : List α) (p : α → Bool) (i : Nat) : ((l.take i).filter p).length ≤ i := Nat.le_trans (List.length_filter_le _ _) (by rw [List.length_take]; omega)
theorem rkd_src {l : List TFeature} (hS : isSource l = true) (r : Int) : isSource (rkd l r) = true := src_filter hS _
theorem rkd_gd {l : List TFeature} (hg : ∀ x ∈ l, x.gd) (r : Int) : ∀ x ∈ rkd l r, x.gd := fun x hx => hg x (List.mem_filter.1 hx).1
def thn (l : List TFeature) (v : TLevel) : List Int := thinI (plsOf (rkd l v.rank)) v.far
def shP (l : List TFeature) (v : TLevel) (x : TFeature) : Bool := (x.kind != 1) || has (thn l v) x.id
def shTo (l : List TFeature) (v : TLevel) (i : Nat) : List Int := (((rkd l v.rank).take i).filter (shP l v)).map (·.id)
def shown (l : List TFeature) (v : TLevel) : List Int := ((rkd l v.rank).filter (shP l v)).map (·.id)
theorem shTo_all (l : List TFeature) (v : TLevel) : shTo l v (rkd l v.rank).length = shown l v := by rw [shTo, List.take_length]; rfl
theorem shTo_y {l : List TFeature} {v : TLevel} {i : Nat} {x : TFeature} (hx : (rkd l v.rank)[i]? = some x) (h : shP l v x = true) : (shTo l v (i + 1)).map enI = (shTo l v i).map enI ++ [[I x.id]] ∧ (shTo l v (i + 1)).length = (shTo l v i).length + 1 := by
  unfold shTo
  rw [filt_y hx h]
  simp
theorem shTo_n {l : List TFeature} {v : TLevel} {i : Nat} {x : TFeature} (hx : (rkd l v.rank)[i]? = some x) (h : shP l v x = false) : (shTo l v (i + 1)).map enI = (shTo l v i).map enI ∧ (shTo l v (i + 1)).length = (shTo l v i).length := by
  unfold shTo
  rw [filt_n hx h]
  exact ⟨rfl, rfl⟩
theorem shTo_len (l : List TFeature) (v : TLevel) (i : Nat) : (shTo l v i).length ≤ i := by
  unfold shTo
  rw [List.length_map]
  exact filt_len _ _ _
theorem thn_len {l : List TFeature} (hS : isSource l = true) (v : TLevel) : (thn l v).length ≤ 16 := by
  have h1 := putIs_len ((kept (srtA (plsOf (rkd l v.rank))) v.far).map (·.id)) []
  have h2 := thin_len (plsOf (rkd l v.rank)) v.far
  have h3 := (plsOf_ok (rkd_src hS v.rank)).len
  unfold thn thinI
  simp at h1
  omega
def npTo (l : List TFeature) (v : TLevel) (i : Nat) : List Int := thn l v ++ (((rkd l v.rank).take i).filter fun x => x.kind != 1).map (·.id)
theorem npTo_y {l : List TFeature} {v : TLevel} {i : Nat} {x : TFeature} (hx : (rkd l v.rank)[i]? = some x) (h : (x.kind != 1) = true) : (npTo l v (i + 1)).map enI = (npTo l v i).map enI ++ [[I x.id]] := by
  unfold npTo
  rw [filt_y hx h]
  simp
theorem npTo_n {l : List TFeature} {v : TLevel} {i : Nat} {x : TFeature} (hx : (rkd l v.rank)[i]? = some x) (h : (x.kind != 1) = false) : npTo l v (i + 1) = npTo l v i := by
  unfold npTo
  rw [filt_n hx h]
theorem npTo_len {l : List TFeature} (hS : isSource l = true) (v : TLevel) (i : Nat) : (npTo l v i).length ≤ 16 + i := by
  have h1 := thn_len hS v
  have h2 := filt_len (rkd l v.rank) (fun x => x.kind != 1) i
  unfold npTo
  simp only [List.length_append, List.length_map]
  omega
theorem thn_mem {l : List TFeature} {v : TLevel} {n : Int} (h : n ∈ thn l v) : ∃ x ∈ rkd l v.rank, (x.kind == 1) = true ∧ x.id = n := by
  obtain ⟨_, h2⟩ := putIs_asc (xs := (kept (srtA (plsOf (rkd l v.rank))) v.far).map (·.id)) (l := []) List.Pairwise.nil
  have hm := (h2 n).1 h
  simp only [List.not_mem_nil, or_false] at hm
  obtain ⟨p, hp, rfl⟩ := List.mem_map.1 hm
  have hp2 := (srtA_perm _).mem_iff.1 ((kept_sub _ _).subset hp)
  unfold plsOf at hp2
  obtain ⟨x, hx, rfl⟩ := List.mem_map.1 hp2
  obtain ⟨hx1, hx2⟩ := List.mem_filter.1 hx
  exact ⟨x, hx1, hx2, rfl⟩
theorem shown_merge {l : List TFeature} (hS : isSource l = true) (v : TLevel) : ((npTo l v (rkd l v.rank).length).mergeSort fun x y => decide (x ≤ y)) = shown l v := by
  obtain ⟨h1, h2, h3⟩ := (src_iff _).1 (rkd_src hS v.rank)
  have hid : ∀ x ∈ rkd l v.rank, ∀ y ∈ rkd l v.rank, x.id = y.id → x = y := fun x hx y hy e => by
    obtain ⟨i, hi, rfl⟩ := List.mem_iff_getElem.1 hx
    obtain ⟨j, hj, rfl⟩ := List.mem_iff_getElem.1 hy
    rcases Nat.lt_trichotomy i j with h | h | h
    · have := List.pairwise_iff_getElem.1 h3 i j hi hj h; omega
    · subst h; rfl
    · have := List.pairwise_iff_getElem.1 h3 j i hj hi h; omega
  have hnd : (npTo l v (rkd l v.rank).length).Pairwise (· ≠ ·) := by
    unfold npTo
    rw [List.take_length]
    refine List.pairwise_append.2 ⟨?_, ?_, fun a ha b hb e => ?_⟩
    · obtain ⟨g, _⟩ := putIs_asc (xs := (kept (srtA (plsOf (rkd l v.rank))) v.far).map (·.id)) (l := []) List.Pairwise.nil
      exact g.imp fun h => by omega
    · rw [List.pairwise_map]
      exact (h3.filter _).imp fun h => by omega
    · obtain ⟨x, hx, hk, rfl⟩ := thn_mem ha
      obtain ⟨y, hy, hye⟩ := List.mem_map.1 hb
      obtain ⟨hy1, hy2⟩ := List.mem_filter.1 hy
      have := hid x hx y hy1 (by rw [e, hye])
      subst this
      simp at hk hy2
      exact hy2 hk
  have hsh : (shown l v).Pairwise (· < ·) := by
    unfold shown
    rw [List.pairwise_map]
    exact h3.filter _
  refine asc_ext sto_int (merge_asc hnd) hsh fun n => ?_
  rw [(List.mergeSort_perm _ _).mem_iff]
  unfold npTo shown
  rw [List.take_length, List.mem_append, List.mem_map, List.mem_map]
  constructor
  · rintro (h | ⟨x, hx, rfl⟩)
    · obtain ⟨x, hx, hk, rfl⟩ := thn_mem h
      exact ⟨x, List.mem_filter.2 ⟨hx, by unfold shP; rw [Bool.or_eq_true]; exact .inr (has_iff.2 h)⟩, rfl⟩
    · obtain ⟨hx1, hx2⟩ := List.mem_filter.1 hx
      exact ⟨x, List.mem_filter.2 ⟨hx1, by unfold shP; rw [Bool.or_eq_true]; exact .inl hx2⟩, rfl⟩
  · rintro ⟨x, hx, rfl⟩
    obtain ⟨hx1, hx2⟩ := List.mem_filter.1 hx
    unfold shP at hx2
    rw [Bool.or_eq_true] at hx2
    rcases hx2 with h | h
    · exact .inr ⟨x, List.mem_filter.2 ⟨hx1, h⟩, rfl⟩
    · exact .inl (has_iff.1 h)

theorem has_s (l : List Int) (n : Int) (hl : l.length ≤ 1048576) : VCalls Tryz.prog 135 [.ro 1 (l.map enI), I n] (fun r M => r = B (has l n) ∧ M = []) := by
  refine VB Tryz.func135 16 (fun E hE => ?_)
  have hclo : Clo (.ro 1 (l.map enI)) := clo_list clo_enI
  repeat' ((first
    | (refine iAL ?_; first | refine AL.any ?_ | refine AL.nil ?_)
    | (refine iAW ?_; first | (refine AW.c0 ?_; constructor) | refine AW.cT ?_ | refine AW.cF ?_)
    | (
  refine AW.loopD hE (fun i : Nat => [.ro 1 (l.map enI), I n, .any, .any, .any, I (i : Int), .any, .any, .any, .any, .any, .any, .any, .any, .any, .any, .any, .any]) (fun i => []) (fun i => l.length - i) (fun i => i ≤ l.length ∧ (l.take i).any (fun y => y == n) = false) 0 ⟨Nat.zero_le _, rfl⟩ ?_ (by first | rfl | (simp [fil_zero]; done)) ?_
  (focus (exact wkI))
  intro i hi
  have hi2 := hi.2
  by_cases hlt : i < l.length
  case' pos =>
    have hP := True.intro
    obtain ⟨x, hx⟩ : ∃ x, l[i]? = some x := ⟨_, List.getElem?_eq_getElem hlt⟩
    have hg := map_get (f := enI) hx
    have ht := lt_true (f := enI) hlt
    have hn := next_ix hlt (by omega)
    rcases Bool.eq_false_or_eq_true (x == n) with hxn | hxn
    case' inr => have hjn := any_take_n hx hi2 hxn
  case' neg =>
    have hQ := True.intro
    have ht := lt_false (f := enI) hlt
    have e : i = l.length := by omega
    subst e
    try rw [List.take_length])) <;> (try dsimp only))
  all_goals first
    | (have _ := hP; (refine ⟨i + 1, _, ⟨hlt, hjn⟩, by omega, ?_, rfl, ?_, ?_⟩; (focus (exact wkH)); (focus (exact fitsA)); (focus (exact FitsM.nil _))))
    | (have _ := hP; exact Fin.one rfl (RV.tmp (by rfl)) (clo_c _) ⟨by rw [has, any_yes hx hxn], rfl⟩)
    | (have _ := hQ; exact Fin.one rfl (RV.tmp (by rfl)) (clo_c _) ⟨by rw [List.take_length] at hi2; rw [has, hi2], rfl⟩)

theorem ix_i (l : List Int) (n : Int) (hl : l.length ≤ 1048576) : VCalls Tryz.prog 209 [.ro 1 (l.map enI), I n] (fun r M => r = I (ixI l n) ∧ M = []) := by
  refine VB Tryz.func209 17 (fun E hE => ?_)
  have hclo : Clo (.ro 1 (l.map enI)) := clo_list clo_enI
  repeat' ((first
    | (refine iAL ?_; first | refine AL.any ?_ | refine AL.nil ?_)
    | (refine iAW ?_; first | (refine AW.c0 ?_; constructor) | refine AW.cT ?_ | refine AW.cF ?_)
    | (
  refine AW.loopD hE (fun i : Nat => [.ro 1 (l.map enI), I n, .any, .any, .any, .any, .any, I ((l.map enI).length : Int), I (i : Int), .any, .any, .any, .any, .any, .any, .any, .any, .any, .any]) (fun i => []) (fun i => l.length - i) (fun i => i ≤ l.length ∧ (l.take i).any (fun y => y == n) = false) 0 ⟨Nat.zero_le _, rfl⟩ ?_ (by first | rfl | (simp [fil_zero]; done)) ?_
  (focus (exact wkI))
  intro i hi
  have hi2 := hi.2
  by_cases hlt : i < l.length
  case' pos =>
    have hP := True.intro
    obtain ⟨x, hx⟩ : ∃ x, l[i]? = some x := ⟨_, List.getElem?_eq_getElem hlt⟩
    have hg := map_get (f := enI) hx
    have ht := lt_true (f := enI) hlt
    have hn := next_ix hlt (by omega)
    rcases Bool.eq_false_or_eq_true (n == x) with hxn | hxn
    case' inr => have hjn := any_take_n (p := fun y => y == n) hx hi2 (by rw [beq_symm]; exact hxn)
  case' neg =>
    have hQ := True.intro
    have ht := lt_false (f := enI) hlt
    have e : i = l.length := by omega
    subst e
    try rw [List.take_length])) <;> (try dsimp only))
  all_goals first
    | (have _ := hP; (refine ⟨i + 1, _, ⟨hlt, hjn⟩, by omega, ?_, rfl, ?_, ?_⟩; (focus (exact wkH)); (focus (exact fitsA)); (focus (exact FitsM.nil _))))
    | (have _ := hP; exact Fin.one rfl (RV.tmp (by rfl)) (clo_c _) ⟨by rw [ixI_y hx (by rw [beq_symm]; exact hxn) hi2], rfl⟩)
    | (have _ := hQ; exact Fin.one rfl (RV.tmp (by rfl)) (clo_c _) ⟨by rw [ixI_n hi2], rfl⟩)

theorem has_i (l : List Int) (n : Int) (hl : l.length ≤ 1048576) : VCalls Tryz.prog 141 [.ro 1 (l.map enI), I n] (fun r M => r = B (has l n) ∧ M = []) := by
  refine VB Tryz.func141 7 (fun E hE => ?_)
  have hclo : Clo (.ro 1 (l.map enI)) := clo_list clo_enI
  repeat' ((first
    | (refine iAL ?_; first | refine AL.any ?_ | refine AL.any (h := POp.k Tryz.func209 (hc := ix_i _ _ (by omega))) ?_ | refine AL.nil ?_)
    | (refine iAW ?_; (refine AW.c0 ?_; constructor))) <;> (try dsimp only))
  all_goals exact Fin.one rfl (RV.tmp (by rfl)) (clo_c _) ⟨by rw [← ixI_ge], rfl⟩

theorem cloneF' (x : TFeature) (hs : x.sm) : VCalls Tryz.prog 118 [.agg x.en] (fun r M => r = .agg x.en ∧ M = []) := VCalls.frz (cloneF x hs) (by repeat' (first | exact VwL.nil | refine VwL.cons ?_ ?_ | (refine View.own (by rfl) (by rfl) (by rfl) (by rfl) ?_ ?_ <;> first | exact DCl.b rfl | exact DCl.map (fun _ => rfl) | assumption | rfl | exact TPoint.und | exact TSegment.und | exact TBox.und | exact TFeature.und | exact TMeet.und | exact TPlace.und | exact TCover.und | exact TLabel.und | exact TPiece.und | exact TLevel.und | exact TChart.und | exact TReason.und | exact TEdit.und | exact TEntry.und | exact TEdition.und | exact TListing.und | exact TAtlas.und | exact TEvent.und | exact TWindow.und | exact und_nil | exact und_I | assumption) | refine View.agg' ?_ | exact View.same (by first | exact clo_of (by rfl) | assumption | exact clo_fn _) | exact View.nil))
theorem rkd_s (l : List TFeature) (rk : Int) (hS : isSource l = true) (hg0 : ∀ x ∈ l, x.gd) : VCalls Tryz.prog 199 [.ro 5 (l.map TFeature.en), I rk] (fun r M => r = .ro 5 ((rkd l rk).map TFeature.en) ∧ M = []) := by
  refine VB Tryz.func199 28 (fun E hE => ?_)
  have hclo : Clo (.ro 5 (l.map TFeature.en)) := clo_list TFeature.clo_en
  have hsl := src_len hS
  repeat' ((first
    | (refine iAL ?_; first | refine AL.any ?_ | refine AL.any (h := POp.k Tryz.func108 (hc := cloneF_s' x (by assumption))) ?_ | refine AL.nil ?_)
    | (refine iAW ?_; first | (refine AW.freezeRet (t := 4) (id := 0) rfl rfl rfl rfl (clo_rows TFeature.clo_en) ?_; (try simp only [List.take_length]); try dsimp only [dput, List.set, cond_true, cond_false, Nat.zero_add, Nat.add_zero, Nat.reduceAdd, splice, List.take, List.drop, List.length, List.nil_append, List.cons_append, List.append, TPoint.en, TSegment.en, TBox.en, TFeature.en, TMeet.en, TPlace.en, TCover.en, TLabel.en, TPiece.en, TLevel.en, TChart.en, TReason.en, TEdit.en, TEntry.en, TEdition.en, TListing.en, TAtlas.en, TEvent.en, TWindow.en]) | (refine AW.c0 ?_; constructor) | refine AW.cT ?_ | refine AW.cF ?_)
    | (
  refine AW.loopD hE (fun i : Nat => [.ro 5 (l.map TFeature.en), I rk, .any, .any, .any, .own 0 (rkdTo l rk i).length, I (i : Int), .any, .any, .any, .any, .any, .any, .any, .any, .any, .any, .any, .any, .any, .any, .any, .any, .any, .any, .any, .any, .any, .any, .any]) (fun i => [some ⟨81, 5, (rkdTo l rk i).length, false, (rkdTo l rk i).map TFeature.en⟩]) (fun i => l.length - i) (fun i => i ≤ l.length) 0 (by simp) ?_ (by first | rfl | (simp [fil_zero]; done)) ?_
  (focus (exact wkI))
  intro i hi
  by_cases hlt : i < l.length
  case' pos =>
    have hP := True.intro
    obtain ⟨x, hx⟩ : ∃ x, l[i]? = some x := ⟨_, List.getElem?_eq_getElem hlt⟩
    have hg := map_get (f := TFeature.en) hx
    have ht := lt_true (f := TFeature.en) hlt
    have hn := next_ix hlt (by omega)
    have hgx := hg0 x (List.mem_of_getElem? hx)
    have hsx : x.sm := hgx.1
    have hcle : Clo (.agg x.en) := Clo.agg x.clo_en
    have hclP : Clo (.ro 2 (x.points.map TPoint.en)) := clo_list TPoint.clo_en
    have hln := filt_len l (fun x => decide (x.rank ≥ rk)) i
    have hln2 : (rkdTo l rk i).length ≤ i := hln
    rcases Bool.eq_false_or_eq_true (decide (x.rank ≥ rk)) with hk | hk
    case' inl =>
      have hm0 : rkdTo l rk (i + 1) = rkdTo l rk i ++ [x] := filt_y hx hk
      have hm : (rkdTo l rk (i + 1)).map TFeature.en = (rkdTo l rk i).map TFeature.en ++ [x.en] := by rw [hm0, List.map_append]; rfl
      have hm2 : (rkdTo l rk (i + 1)).length = (rkdTo l rk i).length + 1 := by rw [hm0]; simp
    case' inr => have hm0 : rkdTo l rk (i + 1) = rkdTo l rk i := filt_n hx hk
  case' neg =>
    have hQ := True.intro
    have ht := lt_false (f := TFeature.en) hlt
    have e : i = l.length := by omega
    subst e
    try rw [List.take_length]
    rw [rkdTo_all])) <;> (try dsimp only))
  all_goals first
    | (have _ := hP; (refine ⟨i + 1, _, hlt, by omega, ?_, by first | (rw [hm, hm2] <;> rfl) | (rw [hm0] <;> rfl), ?_, ?_⟩; (focus ((refine wkj ?_; repeat' with_reducible constructor) <;> (first | rfl | (rw [hn]; done) | (rw [hm2]; done) | (rw [hm0]; done)))); (focus (exact fitsA)); (focus (exact fits_row (clo_rows TFeature.clo_en)))))
    | (have _ := hQ; exact Fin.one rfl (RV.tmp (by rfl)) (clo_list TFeature.clo_en) ⟨rfl, rfl⟩)

theorem rkd_i (l : List TFeature) (rk : Int) (hS : isSource l = true) (hg0 : ∀ x ∈ l, x.gd) : VCalls Tryz.prog 159 [.ro 5 (l.map TFeature.en), I rk] (fun r M => r = .ro 5 ((rkd l rk).map TFeature.en) ∧ M = []) := by
  refine VB Tryz.func159 23 (fun E hE => ?_)
  have hclo : Clo (.ro 5 (l.map TFeature.en)) := clo_list TFeature.clo_en
  have hsl := src_len hS
  repeat' ((first
    | (refine iAL ?_; first | refine AL.any ?_ | refine AL.nil ?_)
    | (refine iAW ?_; first | (refine AW.freezeRet (t := 4) (id := 0) rfl rfl rfl rfl (clo_rows TFeature.clo_en) ?_; (try simp only [List.take_length]); try dsimp only [dput, List.set, cond_true, cond_false, Nat.zero_add, Nat.add_zero, Nat.reduceAdd, splice, List.take, List.drop, List.length, List.nil_append, List.cons_append, List.append, TPoint.en, TSegment.en, TBox.en, TFeature.en, TMeet.en, TPlace.en, TCover.en, TLabel.en, TPiece.en, TLevel.en, TChart.en, TReason.en, TEdit.en, TEntry.en, TEdition.en, TListing.en, TAtlas.en, TEvent.en, TWindow.en]) | (refine AW.c0 ?_; constructor) | refine AW.cT ?_ | refine AW.cF ?_)
    | (
  refine AW.loopD hE (fun i : Nat => [.any, I rk, .any, .any, .any, .own 0 (rkdTo l rk i).length, .any, .any, .any, .ro 5 (l.map TFeature.en), I ((l.map TFeature.en).length : Int), I (i : Int), .any, .any, .any, .any, .any, .any, .any, .any, .any, .any, .any, .any, .any]) (fun i => [some ⟨81, 5, (rkdTo l rk i).length, false, (rkdTo l rk i).map TFeature.en⟩]) (fun i => l.length - i) (fun i => i ≤ l.length) 0 (by simp) ?_ (by first | rfl | (simp [fil_zero]; done)) ?_
  (focus (exact wkI))
  intro i hi
  by_cases hlt : i < l.length
  case' pos =>
    have hP := True.intro
    obtain ⟨x, hx⟩ : ∃ x, l[i]? = some x := ⟨_, List.getElem?_eq_getElem hlt⟩
    have hg := map_get (f := TFeature.en) hx
    have ht := lt_true (f := TFeature.en) hlt
    have hn := next_ix hlt (by omega)
    have hgx := hg0 x (List.mem_of_getElem? hx)
    have hsx : x.sm := hgx.1
    have hcle : Clo (.agg x.en) := Clo.agg x.clo_en
    have hclP : Clo (.ro 2 (x.points.map TPoint.en)) := clo_list TPoint.clo_en
    have hln := filt_len l (fun x => decide (x.rank ≥ rk)) i
    have hln2 : (rkdTo l rk i).length ≤ i := hln
    rcases Bool.eq_false_or_eq_true (decide (x.rank ≥ rk)) with hk | hk
    case' inl =>
      have hm0 : rkdTo l rk (i + 1) = rkdTo l rk i ++ [x] := filt_y hx hk
      have hm : (rkdTo l rk (i + 1)).map TFeature.en = (rkdTo l rk i).map TFeature.en ++ [x.en] := by rw [hm0, List.map_append]; rfl
      have hm2 : (rkdTo l rk (i + 1)).length = (rkdTo l rk i).length + 1 := by rw [hm0]; simp
    case' inr => have hm0 : rkdTo l rk (i + 1) = rkdTo l rk i := filt_n hx hk
  case' neg =>
    have hQ := True.intro
    have ht := lt_false (f := TFeature.en) hlt
    have e : i = l.length := by omega
    subst e
    try rw [List.take_length]
    rw [rkdTo_all])) <;> (try dsimp only))
  all_goals first
    | (have _ := hP; (refine ⟨i + 1, _, hlt, by omega, ?_, by first | (rw [hm, hm2] <;> rfl) | (rw [hm0] <;> rfl), ?_, ?_⟩; (focus ((refine wkj ?_; repeat' with_reducible constructor) <;> (first | rfl | (rw [hn]; done) | (rw [hm2]; done) | (rw [hm0]; done)))); (focus (exact fitsA)); (focus (exact fits_row (clo_rows TFeature.clo_en)))))
    | (have _ := hQ; exact Fin.one rfl (RV.tmp (by rfl)) (clo_list TFeature.clo_en) ⟨rfl, rfl⟩)

def cntTo (l : List TFeature) (i : Nat) : Nat := ((l.take i).map fun x => x.points.length).sum
def cntP (l : List TFeature) : Nat := (l.map fun x => x.points.length).sum
theorem cntTo_all (l : List TFeature) : cntTo l l.length = cntP l := by rw [cntTo, List.take_length]; rfl
theorem cntTo_succ {l : List TFeature} {i : Nat} {x : TFeature} (h : l[i]? = some x) : cntTo l (i + 1) = cntTo l i + x.points.length := by
  unfold cntTo
  rw [take_succ_of h, List.map_append, List.sum_append]
  simp
theorem cnt_le : ∀ {l : List TFeature}, (∀ x ∈ l, x.points.length ≤ 1048576) → (l.map fun x => x.points.length).sum ≤ l.length * 1048576
  | [], _ => by simp
  | x :: l, h => by
    have h1 := h x List.mem_cons_self
    have h2 := cnt_le (l := l) fun y hy => h y (List.mem_cons_of_mem _ hy)
    simp only [List.map_cons, List.sum_cons, List.length_cons]
    omega
theorem cntTo_le {l : List TFeature} (h : ∀ x ∈ l, x.points.length ≤ 1048576) (i : Nat) (hl : l.length ≤ 1048576) : cntTo l i ≤ 1099511627776 := by
  have h1 := cnt_le (l := l.take i) fun y hy => h y (List.mem_of_mem_take hy)
  have h2 : (l.take i).length ≤ 1048576 := by rw [List.length_take]; omega
  have h3 := Nat.mul_le_mul_right 1048576 h2
  exact Nat.le_trans h1 h3
def smX (l : List TPoint) (i : Nat) : Int := (l.take i).foldl (fun n p => IntKind.i64.wrap (n + p.x)) 0
def smY (l : List TPoint) (i : Nat) : Int := (l.take i).foldl (fun n p => IntKind.i64.wrap (n + p.y)) 0
def rmid (l : List TPoint) : TPoint := ⟨IntKind.i64.wrap ((smX l l.length).tdiv (l.length : Int)), IntKind.i64.wrap ((smY l l.length).tdiv (l.length : Int))⟩
theorem smX_succ {l : List TPoint} {i : Nat} {p : TPoint} (h : l[i]? = some p) : smX l (i + 1) = IntKind.i64.wrap (smX l i + p.x) := by
  unfold smX; rw [take_succ_of h, List.foldl_append]; rfl
theorem smY_succ {l : List TPoint} {i : Nat} {p : TPoint} (h : l[i]? = some p) : smY l (i + 1) = IntKind.i64.wrap (smY l i + p.y) := by
  unfold smY; rw [take_succ_of h, List.foldl_append]; rfl
theorem fold_bd {f : TPoint → Int} : ∀ (l : List TPoint) (n : Int), (∀ p ∈ l, 0 ≤ f p ∧ f p ≤ 200) → 0 ≤ n → n + 200 * l.length ≤ 100000 → 0 ≤ l.foldl (fun n p => IntKind.i64.wrap (n + f p)) n ∧ l.foldl (fun n p => IntKind.i64.wrap (n + f p)) n ≤ n + 200 * l.length
  | [], n, _, h0, _ => ⟨h0, by simp⟩
  | p :: l, n, h, h0, hb => by
    obtain ⟨a, b⟩ := h p List.mem_cons_self
    simp only [List.length_cons] at hb
    have e : IntKind.i64.wrap (n + f p) = n + f p := w64 (by omega) (by omega)
    have := fold_bd l (n + f p) (fun q hq => h q (List.mem_cons_of_mem _ hq)) (by omega) (by omega)
    rw [List.foldl_cons, e]
    simp only [List.length_cons]
    omega
theorem div_bd {s n : Int} (h0 : 0 ≤ s) (hn : 0 < n) (h : s ≤ 200 * n) : 0 ≤ IntKind.i64.wrap (s.tdiv n) ∧ IntKind.i64.wrap (s.tdiv n) ≤ 200 := by
  have e : s.tdiv n = s / n := Int.tdiv_eq_ediv_of_nonneg h0
  have h1 : 0 ≤ s / n := Int.ediv_nonneg h0 (by omega)
  have h2 : s / n ≤ 200 := Int.ediv_le_of_le_mul hn h
  rw [e, w64 (by omega) (by omega)]
  exact ⟨h1, h2⟩
theorem ring_pts {l : List TPoint} (h : isRing l = true) : ∀ p ∈ l, isp p.x p.y = true := fun p hp => by
  obtain ⟨i, hi⟩ := List.getElem?_of_mem hp
  have hil := (List.getElem?_eq_some_iff.1 hi).1
  have := ((ring_edges h).2.1 i hil).1
  unfold ptA at this
  rw [List.getD_eq_getElem?_getD, hi] at this
  exact this
theorem isp_of {x y : Int} (h1 : 0 ≤ x) (h2 : x ≤ 200) (h3 : 0 ≤ y) (h4 : y ≤ 200) : isp x y = true := by simp [isp, inr, *]
theorem rmid_isp {l : List TPoint} (h : isRing l = true) : isp (rmid l).x (rmid l).y = true := by
  have hp := ring_pts h
  have hn := isRing_len h
  have h1 := fold_bd (f := fun p => p.x) l 0 (fun p hp' => by have := isp_bd (hp p hp'); omega) (Int.le_refl _) (by omega)
  have h2 := fold_bd (f := fun p => p.y) l 0 (fun p hp' => by have := isp_bd (hp p hp'); omega) (Int.le_refl _) (by omega)
  have e1 : smX l l.length = l.foldl (fun n p => IntKind.i64.wrap (n + p.x)) 0 := by rw [smX, List.take_length]
  have e2 : smY l l.length = l.foldl (fun n p => IntKind.i64.wrap (n + p.y)) 0 := by rw [smY, List.take_length]
  have q1 := div_bd (n := (l.length : Int)) h1.1 (by omega) (by omega)
  have q2 := div_bd (n := (l.length : Int)) h2.1 (by omega) (by omega)
  unfold rmid
  rw [e1, e2]
  exact isp_of q1.1 q1.2 q2.1 q2.2
def midP (x : TFeature) : TPoint := x.points.getD (x.points.length / 2) ⟨0, 0⟩
def anP (x : TFeature) : TPoint := if (x.kind == 3) = true then rmid x.points else midP x
def ancOf (x : TFeature) : TPlace := ⟨x.id, anP x, x.rank⟩
def named (x : TFeature) : Bool := !(noName x.name)
def ancTo (l : List TFeature) (i : Nat) : List TPlace := ((l.take i).filter named).map ancOf
def ancs (l : List TFeature) : List TPlace := (l.filter named).map ancOf
theorem ancTo_all (l : List TFeature) : ancTo l l.length = ancs l := by rw [ancTo, List.take_length]; rfl
theorem ancTo_y {l : List TFeature} {i : Nat} {x : TFeature} (hx : l[i]? = some x) (h : noName x.name = false) : (ancTo l (i + 1)).map TPlace.en = (ancTo l i).map TPlace.en ++ [(ancOf x).en] ∧ (ancTo l (i + 1)).length = (ancTo l i).length + 1 := by
  unfold ancTo
  rw [filt_y hx (by unfold named; rw [h]; rfl)]
  simp
theorem ancTo_n {l : List TFeature} {i : Nat} {x : TFeature} (hx : l[i]? = some x) (h : noName x.name = true) : (ancTo l (i + 1)).map TPlace.en = (ancTo l i).map TPlace.en ∧ (ancTo l (i + 1)).length = (ancTo l i).length := by
  unfold ancTo
  rw [filt_n hx (by unfold named; rw [h]; rfl)]
  exact ⟨rfl, rfl⟩
theorem ancTo_len (l : List TFeature) (i : Nat) : (ancTo l i).length ≤ i := by
  unfold ancTo
  rw [List.length_map]
  exact filt_len l named i
theorem tdiv2 {n : Nat} (h : n ≤ 1048576) : IntKind.i64.wrap ((n : Int).tdiv 2) = ((n / 2 : Nat) : Int) := by
  have e : (n : Int).tdiv 2 = ((n / 2 : Nat) : Int) := (Int.ofNat_tdiv n 2).symm
  rw [e, w64 (by omega) (by omega)]
theorem mid_get {x : TFeature} (hf : isFeat x = true) (hl : x.points.length ≤ 1048576) : 0 ≤ IntKind.i64.wrap (((x.points.map TPoint.en).length : Int).tdiv 2) ∧ (x.points.map TPoint.en)[(IntKind.i64.wrap (((x.points.map TPoint.en).length : Int).tdiv 2)).toNat]? = some (midP x).en ∧ ((x.kind == 3) = false → isp (midP x).x (midP x).y = true) := by
  rw [List.length_map, tdiv2 hl]
  have hpos : 0 < x.points.length := by
    rcases kind_cases (feat_bd hf).2.2.2 with ⟨_, p, hp, _⟩ | ⟨_, _, _, h⟩ | ⟨_, _, _, h⟩
    · rw [hp]; simp
    · unfold isSimple at h
      rw [Bool.and_eq_true] at h
      have := (isLine_len h.1).1
      omega
    · have := (isRing_len h).1
      omega
  have hm : x.points.length / 2 < x.points.length := by omega
  have hg : x.points[x.points.length / 2]? = some (midP x) := by
    unfold midP
    rw [List.getD_eq_getElem?_getD, List.getElem?_eq_getElem hm]
    rfl
  refine ⟨by omega, by rw [Int.toNat_natCast, List.getElem?_map, hg]; rfl, fun hk => ?_⟩
  rcases kind_cases (feat_bd hf).2.2.2 with ⟨_, p, hp, hi⟩ | ⟨_, _, _, h⟩ | ⟨_, _, h, _⟩
  · unfold midP
    rw [hp]
    simpa using hi
  · unfold isSimple at h
    rw [Bool.and_eq_true] at h
    have := line_pt h.1 hm
    have e : ptg x.points (x.points.length / 2) = midP x := by
      have := ptg_get hm
      rw [hg] at this
      exact (Option.some.inj this).symm
    rw [e] at this
    exact this
  · rw [h] at hk; cases hk
theorem anP_isp {x : TFeature} (hf : isFeat x = true) (hl : x.points.length ≤ 1048576) : isp (anP x).x (anP x).y = true := by
  unfold anP
  split
  · rename_i h
    rcases kind_cases (feat_bd hf).2.2.2 with ⟨h1, _⟩ | ⟨_, _, h1, _⟩ | ⟨_, _, _, hr⟩
    · have e1 := beq_iff_eq.1 h
      have e2 := beq_iff_eq.1 h1
      omega
    · rw [h] at h1; cases h1
    · exact rmid_isp hr
  · rename_i h
    exact (mid_get hf hl).2.2 (by simpa using h)
theorem ancs_ok {l : List TFeature} (hS : isSource l = true) (hg : ∀ x ∈ l, x.gd) : PlOk (ancs l) := by
  obtain ⟨h1, h2, h3⟩ := (src_iff _).1 (src_filter hS named)
  refine ⟨by unfold ancs; rw [List.length_map]; exact h1, fun x hx => ?_, ?_⟩
  · unfold ancs at hx
    obtain ⟨y, hy, rfl⟩ := List.mem_map.1 hx
    have hf := h2 y hy
    exact ⟨(feat_bd hf).1, anP_isp hf (hg y (List.mem_filter.1 hy).1).1, (feat_bd hf).2.1⟩
  · unfold ancs
    rw [List.pairwise_map]
    exact h3
theorem an_cases {x : TFeature} (hf : isFeat x = true) : ((x.kind == 1) = true ∧ (x.kind == 2) = false ∧ (x.kind == 3) = false ∧ anP x = midP x ∧ (x.points.map TPoint.en)[(0 : Int).toNat]? = some (midP x).en) ∨
    ((x.kind == 1) = false ∧ (x.kind == 2) = true ∧ (x.kind == 3) = false ∧ anP x = midP x) ∨ ((x.kind == 1) = false ∧ (x.kind == 2) = false ∧ (x.kind == 3) = true ∧ anP x = rmid x.points ∧ isRing x.points = true) := by
  rcases kind_cases (feat_bd hf).2.2.2 with ⟨h1, p, hp, _⟩ | ⟨h1, h2, h3, _⟩ | ⟨h1, h2, h3, hr⟩
  · have e := beq_iff_eq.1 h1
    have h3 : (x.kind == 3) = false := by rw [e]; rfl
    refine .inl ⟨h1, by rw [e]; rfl, h3, by unfold anP; rw [if_neg (by rw [h3]; decide)], ?_⟩
    unfold midP
    rw [hp]; simp
  · exact .inr (.inl ⟨h1, h2, h3, by unfold anP; rw [if_neg (by rw [h3]; decide)]⟩)
  · exact .inr (.inr ⟨h1, h2, h3, by unfold anP; rw [if_pos h3], hr⟩)

def ovB (a b : TBox) : Bool := isBoxB a && isBoxB b && decide (wmax a.low.x b.low.x < wmin a.high.x b.high.x) && decide (wmax a.low.y b.low.y < wmin a.high.y b.high.y)
def ovI (a b : TBox) : Bool := isBoxB a && isBoxB b && decide (comX a b > 0) && decide (comY a b > 0)
theorem ovI_eq (a b : TBox) : ovI a b = ovB a b := by
  unfold ovI ovB
  cases ha : isBoxB a
  · simp
  · cases hb : isBoxB b
    · simp
    · have h1 := isBox_bd ha
      have h2 := isBox_bd hb
      unfold comX comY wsub wmin wmax
      rw [Bool.eq_iff_iff]
      simp only [Bool.and_eq_true, decide_eq_true_eq, true_and]
      rw [w64 (by split <;> split <;> omega) (by split <;> split <;> omega), w64 (by split <;> split <;> omega) (by split <;> split <;> omega)]
      repeat' split
      all_goals omega
theorem name_len {s : ByteArray} (h : isName s = true) : 1 ≤ s.size ∧ s.size ≤ 8 := by
  unfold isName inr at h
  simp at h
  omega
theorem name_max {s : ByteArray} (h : isName s = true) : s.size ≤ maxLen := by have := name_len h; rw [maxLen_eq]; omega
def lbx (p : TPoint) (s : ByteArray) (k : Int) : TBox :=
  ⟨⟨if (k == 1 || k == 3) = true then IntKind.i64.wrap (p.x - 2 * (s.size : Int)) else p.x, if (k == 2 || k == 3) = true then IntKind.i64.wrap (p.y - 3) else p.y⟩,
   ⟨if (k == 1 || k == 3) = true then p.x else IntKind.i64.wrap (p.x + 2 * (s.size : Int)), if (k == 2 || k == 3) = true then p.y else IntKind.i64.wrap (p.y + 3)⟩⟩
def lbOk (p : TPoint) (s : ByteArray) (k : Int) : Bool := isBoxB (lbx p s k)
def labB (p : TPoint) (s : ByteArray) (k : Int) : TBox := if lbOk p s k = true then lbx p s k else box0
def crTo (p : TPoint) (s : ByteArray) : Nat → List Int
  | 0 => []
  | i + 1 => crTo p s i ++ if lbOk p s (i : Int) = true then [(i : Int)] else []
def cors (p : TPoint) (s : ByteArray) : List Int := crTo p s 4
theorem crTo_y {p : TPoint} {s : ByteArray} {i : Nat} (h : lbOk p s (i : Int) = true) : (crTo p s (i + 1)).map enI = (crTo p s i).map enI ++ [[I (i : Int)]] ∧ (crTo p s (i + 1)).length = (crTo p s i).length + 1 := by
  rw [crTo, if_pos h]
  simp
theorem crTo_n {p : TPoint} {s : ByteArray} {i : Nat} (h : lbOk p s (i : Int) = false) : (crTo p s (i + 1)).map enI = (crTo p s i).map enI ∧ (crTo p s (i + 1)).length = (crTo p s i).length := by
  rw [crTo, if_neg (by rw [h]; decide), List.append_nil]
  exact ⟨rfl, rfl⟩
theorem crTo_len (p : TPoint) (s : ByteArray) : ∀ i, (crTo p s i).length ≤ i
  | 0 => Nat.le_refl _
  | i + 1 => by
    have := crTo_len p s i
    rw [crTo, List.length_append]
    split <;> simp <;> omega
theorem crTo_mem {p : TPoint} {s : ByteArray} {k : Int} : ∀ {i : Nat}, k ∈ crTo p s i → 0 ≤ k ∧ k < (i : Int) ∧ lbOk p s k = true
  | 0, h => by simp [crTo] at h
  | i + 1, h => by
    rw [crTo, List.mem_append] at h
    rcases h with h | h
    · obtain ⟨a, b, c⟩ := crTo_mem h
      exact ⟨a, by omega, c⟩
    · split at h
      · rename_i hk
        obtain rfl := List.mem_singleton.1 h
        exact ⟨by omega, by omega, hk⟩
      · simp at h
theorem cors_mem {p : TPoint} {s : ByteArray} {k : Int} (h : k ∈ cors p s) : inr k 0 3 = true ∧ lbOk p s k = true := by
  obtain ⟨a, b, c⟩ := crTo_mem h
  refine ⟨?_, c⟩
  simp [inr]
  omega
theorem cors_len (p : TPoint) (s : ByteArray) : (cors p s).length ≤ 4 := crTo_len p s 4
theorem in03 {k : Int} (h : inr k 0 3 = true) : k = 0 ∨ k = 1 ∨ k = 2 ∨ k = 3 := by simp [inr] at h; omega
theorem nat03 {i : Nat} (h : i < 4) : inr (i : Int) 0 3 = true := by simp [inr]; omega
def noOv (b t : TBox) : Bool := !ovB b t
def freeB (b : TBox) (tk : List TBox) : Bool := tk.all (noOv b)
def frK (p : TPoint) (s : ByteArray) (tk : List TBox) (k : Int) : Bool := freeB (labB p s k) tk
def frC (p : TPoint) (s : ByteArray) (tk : List TBox) : Int := ((cors p s).find? (frK p s tk)).getD (-1)
theorem find_at {α : Type} {p : α → Bool} : ∀ {l : List α} {i : Nat} {x : α}, l[i]? = some x → p x = true → (l.take i).all (fun y => !p y) = true → l.find? p = some x
  | [], i, x, hx, _, _ => by simp at hx
  | a :: l, 0, x, hx, hp, _ => by
    simp at hx
    subst hx
    rw [List.find?_cons, hp]
  | a :: l, i + 1, x, hx, hp, hn => by
    rw [List.take_succ_cons, List.all_cons, Bool.and_eq_true] at hn
    rw [List.find?_cons, (by simpa using hn.1 : p a = false)]
    exact find_at (by simpa using hx) hp hn.2
theorem find_no {α : Type} {p : α → Bool} {l : List α} (h : (l.take l.length).all (fun y => !p y) = true) : l.find? p = none := by
  rw [List.take_length, List.all_eq_true] at h
  exact List.find?_eq_none.2 fun x hx hp => by
    have := h x hx
    rw [hp] at this
    cases this
theorem frC_at {p : TPoint} {s : ByteArray} {tk : List TBox} {i : Nat} {k : Int} (hx : (cors p s)[i]? = some k) (hp : frK p s tk k = true) (hn : ((cors p s).take i).all (fun y => !frK p s tk y) = true) : frC p s tk = k := by rw [frC, find_at hx hp hn]; rfl
theorem frC_no {p : TPoint} {s : ByteArray} {tk : List TBox} (hn : ((cors p s).take (cors p s).length).all (fun y => !frK p s tk y) = true) : frC p s tk = -1 := by rw [frC, find_no hn]; rfl
theorem frC_ge {p : TPoint} {s : ByteArray} {tk : List TBox} : frC p s tk = -1 ∨ (inr (frC p s tk) 0 3 = true ∧ lbOk p s (frC p s tk) = true) := by
  unfold frC
  cases h : (cors p s).find? (frK p s tk) with
  | none => exact .inl rfl
  | some k => exact .inr (cors_mem (List.mem_of_find?_eq_some h))
theorem all_take_y' {α : Type} {l : List α} {p : α → Bool} {k : Nat} {y : α} (hy : l[k]? = some y) (ha : (l.take k).all p = true) (hp : p y = true) : (l.take (k + 1)).all p = true := (all_take_y hy ha).trans hp
theorem free_no {b t : TBox} {tk : List TBox} {i : Nat} (ht : tk[i]? = some t) (h : noOv b t = false) : freeB b tk = false := List.all_eq_false.2 ⟨t, List.mem_of_getElem? ht, by rw [h]; decide⟩

def nmOf (l : List TFeature) (k : Int) : ByteArray := match l[(fnd l k).toNat]? with
  | some f => f.name
  | none => ⟨#[]⟩
theorem anc_feat {l : List TFeature} (hS : isSource l = true) (hg : ∀ x ∈ l, x.gd) {x : TPlace} (h : x ∈ srtA (ancs l)) : ∃ (j : Nat) (f : TFeature), l[j]? = some f ∧ fnd l x.id = (j : Int) ∧ nmOf l x.id = f.name ∧ isName f.name = true ∧ isp x.at_.x x.at_.y = true := by
  have h1 := (srtA_perm _).mem_iff.1 h
  have hok := (ancs_ok hS hg).ok x h1
  obtain ⟨f, hf, rfl⟩ := List.mem_map.1 h1
  obtain ⟨hm, hn⟩ := List.mem_filter.1 hf
  obtain ⟨j, hj⟩ := List.getElem?_of_mem hm
  have e := fnd_src hS hj
  refine ⟨j, f, hj, e, ?_, ?_, hok.2.1⟩
  · show nmOf l f.id = _
    unfold nmOf
    rw [e, Int.toNat_natCast, hj]
  · have h2 := (feat_bd (src_feat hS hj)).2.2.1
    unfold named at hn
    simp only [Bool.or_eq_true] at h2
    rcases h2 with h2 | h2
    · rw [h2] at hn; cases hn
    · exact h2
def pnL (l : List TFeature) (out : List TLabel) (x : TPlace) : TLabel := ⟨x.id, nmOf l x.id, labB x.at_ (nmOf l x.id) (frC x.at_ (nmOf l x.id) (out.map (·.box)))⟩
def pnC (l : List TFeature) (out : List TLabel) (x : TPlace) : Bool := decide (frC x.at_ (nmOf l x.id) (out.map (·.box)) < 0)
def pnS (l : List TFeature) (out : List TLabel) (x : TPlace) : List TLabel := if pnC l out x = true then out else out ++ [pnL l out x]
def pnTo (l : List TFeature) (s : List TPlace) (i : Nat) : List TLabel := (s.take i).foldl (pnS l) []
def pnA (l : List TFeature) : List TLabel := (srtA (ancs l)).foldl (pnS l) []
theorem pnTo_all (l : List TFeature) : pnTo l (srtA (ancs l)) (srtA (ancs l)).length = pnA l := by rw [pnTo, List.take_length]; rfl
theorem pnTo_succ {l : List TFeature} {s : List TPlace} {i : Nat} {x : TPlace} (h : s[i]? = some x) : pnTo l s (i + 1) = pnS l (pnTo l s i) x := by
  unfold pnTo
  rw [take_succ_of h, List.foldl_append]
  rfl
theorem pnTo_y {l : List TFeature} {s : List TPlace} {i : Nat} {x : TPlace} (h : s[i]? = some x) (hc : pnC l (pnTo l s i) x = false) : pnTo l s (i + 1) = pnTo l s i ++ [pnL l (pnTo l s i) x] := by rw [pnTo_succ h, pnS, if_neg (by rw [hc]; decide)]
theorem pnTo_n {l : List TFeature} {s : List TPlace} {i : Nat} {x : TPlace} (h : s[i]? = some x) (hc : pnC l (pnTo l s i) x = true) : pnTo l s (i + 1) = pnTo l s i := by rw [pnTo_succ h, pnS, if_pos hc]
theorem pn_fold_sub (l : List TFeature) : ∀ (s : List TPlace) (p : List Int) (out : List TLabel), (out.map (·.id)).Sublist p → ((s.foldl (pnS l) out).map (·.id)).Sublist (p ++ s.map (·.id))
  | [], p, out, h => by simpa using h
  | x :: s, p, out, h => by
    rw [List.foldl_cons]
    have e : p ++ (x :: s).map (·.id) = (p ++ [x.id]) ++ s.map (·.id) := by simp
    rw [e]
    refine pn_fold_sub l s (p ++ [x.id]) _ ?_
    unfold pnS
    split
    · exact h.trans (List.sublist_append_left _ _)
    · rw [List.map_append]
      exact h.append (List.Sublist.refl _)
theorem pnTo_sub (l : List TFeature) (s : List TPlace) (i : Nat) : ((pnTo l s i).map (·.id)).Sublist ((s.take i).map (·.id)) := pn_fold_sub l (s.take i) [] [] (List.Sublist.refl _)
theorem pnTo_len (l : List TFeature) (s : List TPlace) (i : Nat) : (pnTo l s i).length ≤ i := by
  have := (pnTo_sub l s i).length_le
  rw [List.length_map, List.length_map, List.length_take] at this
  omega
theorem pnA_nodup {l : List TFeature} (hS : isSource l = true) (hg : ∀ x ∈ l, x.gd) : ((pnA l).map (·.id)).Pairwise (· ≠ ·) := by
  rw [← pnTo_all]
  have h1 : (srtA (ancs l)).Pairwise fun x y => x.id ≠ y.id := ((srtA_perm _).pairwise_iff fun h e => h e.symm).2 (ancs_ok hS hg).ne
  have h2 := pnTo_sub l (srtA (ancs l)) (srtA (ancs l)).length
  rw [List.take_length] at h2
  exact (List.pairwise_map.2 h1).sublist h2
theorem pnA_len {l : List TFeature} (hS : isSource l = true) (hg : ∀ x ∈ l, x.gd) : (pnA l).length ≤ 16 := by
  rw [← pnTo_all]
  have := pnTo_len l (srtA (ancs l)) (srtA (ancs l)).length
  rw [srtA_len] at *
  have h2 := (ancs_ok hS hg).len
  omega
def lbGt (x y : TLabel) : Bool := decide (y.id > x.id)
def insL (s : List TLabel) (x : TLabel) : List TLabel := insR (lbGt x) s x
def srtL (l : List TLabel) : List TLabel := l.foldl insL []
def slTo (l : List TFeature) (s : List TPlace) (i : Nat) : List TLabel := srtL (pnTo l s i)
def plN (l : List TFeature) : List TLabel := srtL (pnA l)
theorem insR_perm {α : Type} (p : α → Bool) (l : List α) (x : α) : (insR p l x).Perm (x :: l) := by
  unfold insR
  have h := List.perm_middle (a := x) (l₁ := l.take (posR p l)) (l₂ := l.drop (posR p l))
  rw [List.take_append_drop] at h
  simpa using h
theorem srtL_fold_perm : ∀ (l s : List TLabel), (l.foldl insL s).Perm (l ++ s)
  | [], s => List.Perm.refl _
  | x :: l, s => by
    rw [List.foldl_cons]
    exact (srtL_fold_perm l (insL s x)).trans (((insR_perm _ s x).append_left l).trans (List.perm_middle.trans (List.Perm.refl _)))
theorem srtL_perm (l : List TLabel) : (srtL l).Perm l := by
  have := srtL_fold_perm l []
  rwa [List.append_nil] at this
theorem srtL_len (l : List TLabel) : (srtL l).length = l.length := (srtL_perm l).length_eq
theorem srtL_app (l : List TLabel) (x : TLabel) : srtL (l ++ [x]) = insL (srtL l) x := by unfold srtL; rw [List.foldl_append]; rfl
theorem takeWhile_map' {α β : Type} (f : α → β) (p : β → Bool) : ∀ l : List α, (l.map f).takeWhile p = (l.takeWhile fun x => p (f x)).map f
  | [] => rfl
  | x :: l => by
    rw [List.map_cons, List.takeWhile_cons, List.takeWhile_cons, takeWhile_map' f p l]
    split <;> rfl
theorem posR_map {α β : Type} (f : α → β) (p : β → Bool) (l : List α) : posR p (l.map f) = posR (fun x => p (f x)) l := by
  unfold posR
  rw [← List.map_reverse, takeWhile_map', List.length_map, List.length_map]
theorem insR_map {α β : Type} (f : α → β) (p : β → Bool) (l : List α) (x : α) : (insR (fun y => p (f y)) l x).map f = insR p (l.map f) (f x) := by
  unfold insR
  rw [posR_map, List.map_append, List.map_append, List.map_take, List.map_drop]
  rfl
theorem insL_map (s : List TLabel) (x : TLabel) : (insL s x).map TLabel.en = (s.take (posR (lbGt x) s)).map TLabel.en ++ [x.en] ++ (s.drop (posR (lbGt x) s)).map TLabel.en := by
  unfold insL insR
  rw [List.map_append, List.map_append]
  rfl
theorem srtL_asc : ∀ (l s : List TLabel), (s.map (·.id)).Pairwise (· < ·) → ((l ++ s).map (·.id)).Pairwise (· ≠ ·) → ((l.foldl insL s).map (·.id)).Pairwise (· < ·)
  | [], s, hs, _ => hs
  | x :: l, s, hs, hd => by
    rw [List.foldl_cons]
    have e := insR_map (fun y : TLabel => y.id) (fun k => decide (k > x.id)) s x
    have hd2 : (x.id :: ((l ++ s).map (·.id))).Pairwise (· ≠ ·) := hd
    obtain ⟨h1, h2⟩ := List.pairwise_cons.1 hd2
    have hx : x.id ∉ s.map (·.id) := fun h => h1 x.id (by rw [List.map_append]; exact List.mem_append_right _ h) rfl
    refine srtL_asc l (insL s x) ?_ ?_
    · show ((insR _ s x).map _).Pairwise _
      have h3 := (insR_asc sto_int (p := fun k => decide (k > x.id)) (x := x.id) (fun y => by simp) hs).2.2 (fun h0 hh => hx (List.mem_of_getElem? hh))
      exact e ▸ h3.2
    · have hp : ((l ++ insL s x).map (·.id)).Perm (x.id :: ((l ++ s).map (·.id))) := (((insR_perm _ s x).append_left l).trans List.perm_middle).map (·.id)
      exact (hp.pairwise_iff fun h e => h e.symm).2 hd2
def lookL (l : List TLabel) (k : Int) : TLabel := (l.find? fun y => y.id == k).getD ⟨k, ⟨#[]⟩, box0⟩
theorem lookL_id (l : List TLabel) (k : Int) : (lookL l k).id = k := by
  unfold lookL
  cases h : l.find? fun y => y.id == k with
  | none => rfl
  | some y =>
    have h2 : (y.id == k) = true := List.find?_some (p := fun y : TLabel => y.id == k) h
    exact beq_iff_eq.1 h2
theorem lookL_mem {l : List TLabel} (hd : (l.map (·.id)).Pairwise (· ≠ ·)) {x : TLabel} (hx : x ∈ l) : lookL l x.id = x := by
  unfold lookL
  cases h : l.find? fun y => y.id == x.id with
  | none =>
    have := List.find?_eq_none.1 h x hx
    simp at this
  | some y =>
    have hy := List.mem_of_find?_eq_some h
    have h2 : (y.id == x.id) = true := List.find?_some (p := fun y : TLabel => y.id == x.id) h
    have e := beq_iff_eq.1 h2
    show y = x
    obtain ⟨i, hi⟩ := List.getElem?_of_mem hx
    obtain ⟨j, hj⟩ := List.getElem?_of_mem hy
    have hil := (List.getElem?_eq_some_iff.1 hi).1
    have hjl := (List.getElem?_eq_some_iff.1 hj).1
    have key : ∀ a b, a < b → b < l.length → (l[a]?).map (·.id) ≠ (l[b]?).map (·.id) := fun a b hab hb hh => by
      have := List.pairwise_iff_getElem.1 hd a b (by rw [List.length_map]; omega) (by rw [List.length_map]; exact hb) hab
      rw [List.getElem?_eq_getElem (by omega), List.getElem?_eq_getElem hb] at hh
      simp only [List.getElem_map] at this
      exact this (Option.some.inj hh)
    rcases Nat.lt_trichotomy i j with h1 | h1 | h1
    · exact absurd (by rw [hi, hj]; show some x.id = some y.id; rw [e]) (key i j h1 hjl)
    · subst h1; rw [hi] at hj; exact (Option.some.inj hj).symm
    · exact absurd (by rw [hi, hj]; show some y.id = some x.id; rw [e]) (key j i h1 hil)
theorem srtL_merge {l : List TLabel} (hd : (l.map (·.id)).Pairwise (· ≠ ·)) : ((l.map (·.id)).mergeSort fun x y => decide (x ≤ y)).map (lookL l) = srtL l := by
  have h1 := srtL_asc l [] List.Pairwise.nil (by rwa [List.append_nil])
  have e : ((l.map (·.id)).mergeSort fun x y => decide (x ≤ y)) = (srtL l).map (·.id) := asc_ext sto_int (merge_asc hd) h1 fun y => by
    rw [(List.mergeSort_perm _ _).mem_iff]
    exact ((srtL_perm l).map (·.id)).mem_iff.symm
  rw [e, List.map_map]
  have : ∀ x ∈ srtL l, (lookL l ∘ fun y : TLabel => y.id) x = x := fun x hx => lookL_mem hd ((srtL_perm l).mem_iff.1 hx)
  rw [List.map_congr_left this, List.map_id']
theorem look_all {l : List TLabel} (hd : (l.map (·.id)).Pairwise (· ≠ ·)) : (l.map (·.id)).map (fun k => (lookL l k).en) = l.map TLabel.en := by
  rw [List.map_map]
  exact List.map_congr_left fun x hx => by show (lookL l x.id).en = _; rw [lookL_mem hd hx]
theorem far2_ge (p q : TPoint) : 0 ≤ far2 p q := by
  unfold far2
  have e : ∀ d : Int, 0 ≤ d * d := fun d => by
    have e : d * d = (d.natAbs : Int) * (d.natAbs : Int) := Int.natAbs_mul_self.symm.trans (by rw [Int.natCast_mul])
    rw [e, ← Int.natCast_mul]
    exact Int.natCast_nonneg _
  have h1 := e (p.x - q.x)
  have h2 := e (p.y - q.y)
  omega
theorem kept0_fold : ∀ (s out : List TPlace), s.foldl (keptS 0) out = out ++ s
  | [], out => (List.append_nil _).symm
  | x :: s, out => by
    have h : out.all (farOk 0 x) = true := List.all_eq_true.2 fun y _ => by
      unfold farOk
      have := far2_ge y.at_ x.at_
      simp
      omega
    rw [List.foldl_cons, keptS, if_pos h, kept0_fold s, List.append_assoc]
    rfl
theorem kept0 (s : List TPlace) : kept s 0 = s := by
  unfold kept
  rw [kept0_fold]
  rfl
theorem slTo_len (l : List TFeature) (s : List TPlace) (i : Nat) : (slTo l s i).length ≤ i := by
  unfold slTo
  rw [srtL_len]
  exact pnTo_len l s i
theorem slTo_y {l : List TFeature} {s : List TPlace} {i : Nat} {x : TPlace} (h : s[i]? = some x) (hc : pnC l (pnTo l s i) x = false) : slTo l s (i + 1) = insL (slTo l s i) (pnL l (pnTo l s i) x) := by
  unfold slTo
  rw [pnTo_y h hc, srtL_app]
theorem slTo_n {l : List TFeature} {s : List TPlace} {i : Nat} {x : TPlace} (h : s[i]? = some x) (hc : pnC l (pnTo l s i) x = true) : slTo l s (i + 1) = slTo l s i := by
  unfold slTo
  rw [pnTo_n h hc]
theorem slTo_all (l : List TFeature) : slTo l (srtA (ancs l)) (srtA (ancs l)).length = plN l := by unfold slTo; rw [pnTo_all]; rfl

def chAt {α : Type} (ok : α → Bool) (lt : α → α → Bool) (d : α) (l : List α) (i : Nat) : Bool := match l[i]? with
  | none => false
  | some x => ok x && (i == 0 || lt (l.getD (i - 1) d) x)
def chOk {α : Type} (ok : α → Bool) (lt : α → α → Bool) (d : α) (l : List α) (n : Nat) : Bool := (List.range n).all (chAt ok lt d l)
theorem chOk_succ {α : Type} (ok : α → Bool) (lt : α → α → Bool) (d : α) (l : List α) (i : Nat) : chOk ok lt d l (i + 1) = (chOk ok lt d l i && chAt ok lt d l i) := by simp [chOk, List.range_succ]
theorem chOk_not {α : Type} {ok : α → Bool} {lt : α → α → Bool} {d : α} {l : List α} {i n : Nat} (h : chAt ok lt d l i = false) (hi : i < n) : chOk ok lt d l n = false := by
  simp only [chOk, List.all_eq_false, List.mem_range]
  exact ⟨i, hi, by simp [h]⟩
theorem ch_cases {α : Type} (ok : α → Bool) (lt : α → α → Bool) (d : α) (en : α → List AV) {l : List α} {i : Nat} {x : α} (hx : l[i]? = some x) (hl : l.length ≤ 1048576) :
    (ok x = false ∧ chAt ok lt d l i = false) ∨ (ok x = true ∧ decide ((i : Int) > 0) = false ∧ chAt ok lt d l i = true) ∨
    (ok x = true ∧ decide ((i : Int) > 0) = true ∧ 0 ≤ IntKind.i64.wrap ((i : Int) - 1) ∧ (l.map en)[(IntKind.i64.wrap ((i : Int) - 1)).toNat]? = some (en (l.getD (i - 1) d)) ∧ chAt ok lt d l i = lt (l.getD (i - 1) d) x) := by
  have hi := (List.getElem?_eq_some_iff.1 hx).1
  cases hI : ok x
  · exact .inl ⟨rfl, by simp [chAt, hx, hI]⟩
  · rcases Nat.eq_zero_or_pos i with h0 | h0
    · subst h0
      exact .inr (.inl ⟨rfl, by simp, by simp [chAt, hx, hI]⟩)
    · have e : IntKind.i64.wrap ((i : Int) - 1) = ((i - 1 : Nat) : Int) := by rw [w64 (by omega) (by omega)]; omega
      refine .inr (.inr ⟨rfl, decide_eq_true (by omega), by omega, ?_, ?_⟩)
      · rw [e, Int.toNat_natCast, List.getElem?_map, List.getElem?_eq_getElem (show i - 1 < l.length by omega)]
        simp [List.getD_eq_getElem?_getD, List.getElem?_eq_getElem (show i - 1 < l.length by omega)]
      · have : (i == 0) = false := by simp; omega
        simp [chAt, hx, hI, this]
def isLevel (v : TLevel) : Bool := inr v.rank 0 9 && inr v.far 0 200 && inr v.least 0 100000
abbrev levLe (u v : TLevel) : Bool := !(decide (v.rank < u.rank) || decide (v.far < u.far) || decide (v.least < u.least))
def levD : TLevel := ⟨0, 0, 0⟩
def isLadder (l : List TLevel) : Bool := chOk isLevel levLe levD l l.length && inr l.length 1 5
def entOk (e : TEntry) : Bool := isFeat e.feature && inr e.tick 0 100000 && inr e.who 1 99
abbrev entLt (u e : TEntry) : Bool := decide (u.feature.id < e.feature.id)
def entD : TEntry := ⟨featD, 0, 0, false⟩
def isLog (l : List TEntry) : Bool := chOk entOk entLt entD l l.length && decide ((l.length : Int) ≤ 16)
theorem entOk_f {e : TEntry} (h : entOk e = false) : isFeat e.feature = false ∨ (isFeat e.feature = true ∧ inr e.tick 0 100000 = false) ∨ (isFeat e.feature = true ∧ inr e.tick 0 100000 = true ∧ inr e.who 1 99 = false) := by
  revert h
  unfold entOk
  cases isFeat e.feature <;> cases inr e.tick 0 100000 <;> cases inr e.who 1 99 <;> simp
theorem entOk_t {e : TEntry} (h : entOk e = true) : isFeat e.feature = true ∧ inr e.tick 0 100000 = true ∧ inr e.who 1 99 = true := by
  revert h
  unfold entOk
  cases isFeat e.feature <;> cases inr e.tick 0 100000 <;> cases inr e.who 1 99 <;> simp
theorem levLe_cases (u v : TLevel) : (decide (v.rank < u.rank) = true ∧ levLe u v = false) ∨ (decide (v.rank < u.rank) = false ∧ decide (v.far < u.far) = true ∧ levLe u v = false) ∨ (decide (v.rank < u.rank) = false ∧ decide (v.far < u.far) = false ∧ levLe u v = !decide (v.least < u.least)) := by
  unfold levLe
  cases decide (v.rank < u.rank) <;> cases decide (v.far < u.far) <;> simp
def TAtlas.gd (a : TAtlas) : Prop := (a.log.length ≤ 1048576 ∧ ∀ e ∈ a.log, e.feature.gd) ∧ a.levels.length ≤ 1048576 ∧ (a.editions.length ≤ 1048576 ∧ ∀ e ∈ a.editions, e.source.length ≤ 1048576 ∧ ∀ x ∈ e.source, x.gd) ∧ a.cover.cells.size ≤ maxLen
theorem gdA_of {a : TAtlas} (h1 : a.sm) (h2 : a.ok) : a.gd := by
  obtain ⟨⟨s1, s2⟩, s3, s4, s5⟩ := h1
  obtain ⟨⟨_, k2⟩, _, ⟨_, k4⟩, ⟨_, _, k5⟩, _⟩ := h2
  exact ⟨⟨s1, fun e he => ⟨s2 e he, (k2 e he).1.2.2.2.1⟩⟩, s3, ⟨s4, fun e he => ⟨(s5 e he).1, fun x hx => ⟨(s5 e he).2 x hx, ((k4 e he).2.1.2 x hx).2.2.2.1⟩⟩⟩, k5⟩

theorem isLevel_s (v : TLevel) : VCalls Tryz.prog 133 [.agg v.en] (fun r M => r = B (isLevel v) ∧ M = []) := by
  refine VB Tryz.func133 15 (fun E hE => ?_)
  dsimp only [TLevel.en]
  repeat' ((first
    | (refine iAL ?_; first | refine AL.any ?_ | refine AL.any (h := POp.k Tryz.func96 (hc := inr_s _ _ _)) ?_ | refine AL.W ?_ | refine AL.W (h := fun h => by (try rw [h]); exact POp.k Tryz.func96 (hc := inr_s _ _ _)) ?_ | refine AL.nil ?_)
    | (refine iAW ?_; (refine AW.c0 ?_; constructor))) <;> (try dsimp only))
  all_goals exact Fin.one rfl (RV.tmp (by rfl)) (clo_c _) ⟨by first | rfl | (simp only [isLevel, Bool.and_assoc]; done), rfl⟩

theorem isLevel_i (v : TLevel) : VCalls Tryz.prog 139 [.agg v.en] (fun r M => r = B (isLevel v) ∧ M = []) := by
  refine VB Tryz.func139 15 (fun E hE => ?_)
  dsimp only [TLevel.en]
  repeat' ((first
    | (refine iAL ?_; first | refine AL.any ?_ | refine AL.any (h := POp.k Tryz.func145 (hc := inr_v _ _ _)) ?_ | refine AL.W ?_ | refine AL.W (h := fun h => by (try rw [h]); exact POp.k Tryz.func145 (hc := inr_v _ _ _)) ?_ | refine AL.nil ?_)
    | (refine iAW ?_; (refine AW.c0 ?_; constructor))) <;> (try dsimp only))
  all_goals exact Fin.one rfl (RV.tmp (by rfl)) (clo_c _) ⟨by first | rfl | (simp only [isLevel, Bool.and_assoc]; done), rfl⟩

theorem isLadder_s (l : List TLevel) (hl : l.length ≤ 1048576) : VCalls Tryz.prog 77 [.ro 3 (l.map TLevel.en)] (fun r M => r = B (isLadder l) ∧ M = []) := by
  refine VB Tryz.func77 64 (fun E hE => ?_)
  have hclo : Clo (.ro 3 (l.map TLevel.en)) := clo_list TLevel.clo_en
  repeat' ((first
    | (refine iAL ?_; first | refine AL.any ?_ | refine AL.any (h := POp.k Tryz.func96 (hc := inr_s _ _ _)) ?_ | refine AL.U ?_ | refine AL.F ?_ | refine AL.T ?_ | refine AL.nil ?_)
    | ((with_reducible show DL ..); first | refine DL.any ?_ | refine DL.any (h := POp.k Tryz.func133 (hc := isLevel_s x)) ?_ | refine DL.U ?_ | refine DL.F ?_ | refine DL.T ?_ | refine DL.nil ?_)
    | (refine iAW ?_; first | (refine AW.c0 ?_; constructor) | refine AW.dr (id := 4) 48 ?_ | refine AW.cT ?_ | refine AW.cF ?_ | (refine AW.c2 ?_ ?_ <;> (intro h; try simp only [bT, bF] at h)))
    | (
  refine AW.loopD hE (fun i : Nat => (.ro 3 (l.map TLevel.en) :: .any :: .any :: I (i : Int) :: .any :: .any :: .any :: .any :: .any :: .any :: .any :: .any :: .any :: .any :: .any :: .any :: .any :: .any :: .any :: .any :: .any :: .any :: .any :: .any :: .any :: .any :: .any :: .any :: .any :: .any :: .any :: .any :: .any :: .any :: .any :: .any :: .any :: .any :: .any :: .any :: .any :: .any :: .any :: .any :: .any :: .any :: .any :: .any :: .any :: .any :: .any :: .any :: .any :: .any :: .any :: .any :: .any :: .any :: .any :: .any :: .any :: .any :: .any :: .any :: .any :: [])) (fun i => []) (fun i => l.length - i) (fun i => i ≤ l.length ∧ chOk isLevel levLe levD l i = true) 0 (by simp [chOk]) ?_ (by first | rfl | (simp [fil_zero]; done)) ?_
  (focus (exact wkI))
  intro i hi
  by_cases hlt : i < l.length
  case' pos =>
    have hP := True.intro
    obtain ⟨x, hx⟩ : ∃ x, l[i]? = some x := ⟨_, List.getElem?_eq_getElem hlt⟩
    have hg := map_get (f := TLevel.en) hx
    have ht := lt_true (f := TLevel.en) hlt
    have hn := next_ix hlt (by omega)
    have hsu := chOk_succ isLevel levLe levD l i
    rcases ch_cases isLevel levLe levD TLevel.en hx hl with ⟨hI, hk⟩ | ⟨hI, hz, hk⟩ | ⟨hI, hz, h0, hp0, hk⟩
    rotate_left 2
    generalize l.getD (i - 1) levD = p at hp0 hk
    rcases levLe_cases p x with ⟨q1, q4⟩ | ⟨q1, q2, q4⟩ | ⟨q1, q2, q4⟩
    all_goals try rw [q4] at hk
  case' neg =>
    have hQ := True.intro
    have ht := lt_false (f := TLevel.en) hlt
    have e : i = l.length := by omega
    subst e
    try rw [List.take_length])) <;> (try dsimp only))
  all_goals first
    | (have _ := hP; (refine ⟨i + 1, _, ⟨hlt, by simp_all⟩, by omega, ?_, rfl, ?_, ?_⟩; (focus (exact wkN)); (focus (exact fitsA)); (focus (exact FitsM.nil _))))
    | (have _ := hP; exact Fin.one rfl (RV.tmp (by rfl)) (clo_c _) ⟨by have hn := chOk_not (ok := isLevel) (lt := levLe) (d := levD) (n := l.length) (by simp_all : chAt isLevel levLe levD l i = false) hlt; simp_all [isLadder], rfl⟩)
    | (have _ := hQ; exact Fin.one rfl (RV.tmp (by rfl)) (clo_c _) ⟨by simp_all [isLadder], rfl⟩)

theorem isLadder_i (l : List TLevel) (hl : l.length ≤ 1048576) : VCalls Tryz.prog 79 [.ro 3 (l.map TLevel.en)] (fun r M => r = B (isLadder l) ∧ M = []) := by
  refine VB Tryz.func79 56 (fun E hE => ?_)
  have hclo : Clo (.ro 3 (l.map TLevel.en)) := clo_list TLevel.clo_en
  repeat' ((first
    | (refine iAL ?_; first | refine AL.any ?_ | refine AL.any (h := POp.k Tryz.func145 (hc := inr_v _ _ _)) ?_ | refine AL.U ?_ | refine AL.F ?_ | refine AL.T ?_ | refine AL.nil ?_)
    | ((with_reducible show DL ..); first | refine DL.any ?_ | refine DL.any (h := POp.k Tryz.func139 (hc := isLevel_i x)) ?_ | refine DL.U ?_ | refine DL.F ?_ | refine DL.T ?_ | refine DL.nil ?_)
    | (refine iAW ?_; first | (refine AW.c0 ?_; constructor) | refine AW.dr (id := 6) 36 ?_ | refine AW.cT ?_ | refine AW.cF ?_ | (refine AW.c2 ?_ ?_ <;> (intro h; try simp only [bT, bF] at h)))
    | (
  refine AW.loopD hE (fun i : Nat => [.ro 3 (l.map TLevel.en), .any, .any, .any, .any, .any, .any, .any, .any, .ro 3 (l.map TLevel.en), I ((l.map TLevel.en).length : Int), I (i : Int), .any, .any, .any, .any, .any, .any, .any, .any, .any, .any, .any, .any, .any, .any, .any, .any, .any, .any, .any, .any, .any, .any, .any, .any, .any, .any, .any, .any, .any, .any, .any, .any, .any, .any, .any, .any, .any, .any, .any, .any, .any, .any, .any, .any, .any]) (fun i => []) (fun i => l.length - i) (fun i => i ≤ l.length ∧ chOk isLevel levLe levD l i = true) 0 (by simp [chOk]) ?_ (by first | rfl | (simp [fil_zero]; done)) ?_
  (focus (exact wkI))
  intro i hi
  by_cases hlt : i < l.length
  case' pos =>
    have hP := True.intro
    obtain ⟨x, hx⟩ : ∃ x, l[i]? = some x := ⟨_, List.getElem?_eq_getElem hlt⟩
    have hg := map_get (f := TLevel.en) hx
    have ht := lt_true (f := TLevel.en) hlt
    have hn := next_ix hlt (by omega)
    have hsu := chOk_succ isLevel levLe levD l i
    rcases ch_cases isLevel levLe levD TLevel.en hx hl with ⟨hI, hk⟩ | ⟨hI, hz, hk⟩ | ⟨hI, hz, h0, hp0, hk⟩
    rotate_left 2
    generalize l.getD (i - 1) levD = p at hp0 hk
    rcases levLe_cases p x with ⟨q1, q4⟩ | ⟨q1, q2, q4⟩ | ⟨q1, q2, q4⟩
    all_goals try rw [q4] at hk
  case' neg =>
    have hQ := True.intro
    have ht := lt_false (f := TLevel.en) hlt
    have e : i = l.length := by omega
    subst e
    try rw [List.take_length])) <;> (try dsimp only))
  all_goals first
    | (have _ := hP; (refine ⟨i + 1, _, ⟨hlt, by simp_all⟩, by omega, ?_, rfl, ?_, ?_⟩; (focus (exact wkN)); (focus (exact fitsA)); (focus (exact FitsM.nil _))))
    | (have _ := hP; exact Fin.one rfl (RV.tmp (by rfl)) (clo_c _) ⟨by have hn := chOk_not (ok := isLevel) (lt := levLe) (d := levD) (n := l.length) (by simp_all : chAt isLevel levLe levD l i = false) hlt; simp_all [isLadder], rfl⟩)
    | (have _ := hQ; exact Fin.one rfl (RV.tmp (by rfl)) (clo_c _) ⟨by simp_all [isLadder], rfl⟩)
    | (exact Fin.one rfl (RV.tmp (by rfl)) (clo_c _) ⟨by simp_all [isLadder], rfl⟩)

theorem isLog_s (l : List TEntry) (hl : l.length ≤ 1048576) (hp : ∀ e ∈ l, e.feature.gd) : VCalls Tryz.prog 107 [.ro 8 (l.map TEntry.en)] (fun r M => r = B (isLog l) ∧ M = []) := by
  refine VB Tryz.func107 57 (fun E hE => ?_)
  have hclo : Clo (.ro 8 (l.map TEntry.en)) := clo_list TEntry.clo_en
  repeat' ((first
    | (refine iAL ?_; first | refine AL.any ?_ | refine AL.U ?_ | refine AL.F ?_ | refine AL.T ?_ | refine AL.nil ?_)
    | ((with_reducible show DL ..); first | refine DL.any ?_ | refine DL.any (h := POp.k Tryz.func109 (hc := isFeat_s x.feature (by assumption))) ?_ | refine DL.U ?_ | refine DL.F ?_ | refine DL.T ?_ | refine DL.T (h := POp.k Tryz.func96 (hc := inr_s _ _ _)) ?_ | refine DL.nil ?_)
    | (refine iAW ?_; first | (refine AW.c0 ?_; constructor) | refine AW.dr (id := 4) 42 ?_ | refine AW.cT ?_ | refine AW.cF ?_ | (refine AW.c2 ?_ ?_ <;> (intro h; try simp only [bT, bF] at h)))
    | (
  refine AW.loopD hE (fun i : Nat => [.ro 8 (l.map TEntry.en), .any, .any, I (i : Int), .any, .any, .any, .any, .any, .any, .any, .any, .any, .any, .any, .any, .any, .any, .any, .any, .any, .any, .any, .any, .any, .any, .any, .any, .any, .any, .any, .any, .any, .any, .any, .any, .any, .any, .any, .any, .any, .any, .any, .any, .any, .any, .any, .any, .any, .any, .any, .any, .any, .any, .any, .any, .any, .any]) (fun i => []) (fun i => l.length - i) (fun i => i ≤ l.length ∧ chOk entOk entLt entD l i = true) 0 (by simp [chOk]) ?_ (by first | rfl | (simp [fil_zero]; done)) ?_
  (focus (exact wkI))
  intro i hi
  by_cases hlt : i < l.length
  case' pos =>
    have hP := True.intro
    obtain ⟨x, hx⟩ : ∃ x, l[i]? = some x := ⟨_, List.getElem?_eq_getElem hlt⟩
    have hg := map_get (f := TEntry.en) hx
    have ht := lt_true (f := TEntry.en) hlt
    have hn := next_ix hlt (by omega)
    have hgx := hp x (List.mem_of_getElem? hx)
    have hsu := chOk_succ entOk entLt entD l i
    have hclP : Clo (.ro 2 (x.feature.points.map TPoint.en)) := clo_list TPoint.clo_en
    have hcle : Clo (.agg x.en) := Clo.agg x.clo_en
    have hclf : Clo (.agg x.feature.en) := Clo.agg x.feature.clo_en
    rcases ch_cases entOk entLt entD TEntry.en hx hl with ⟨hI, hk⟩ | ⟨hI, hz, hk⟩ | ⟨hI, hz, h0, hp0, hk⟩
    rotate_left 1
    all_goals first | obtain ⟨q1, q2, q3⟩ := entOk_t hI | rcases entOk_f hI with q1 | ⟨q1, q2⟩ | ⟨q1, q2, q3⟩
  case' neg =>
    have hQ := True.intro
    have ht := lt_false (f := TEntry.en) hlt
    have e : i = l.length := by omega
    subst e
    try rw [List.take_length])) <;> (try dsimp only))
  all_goals first
    | (have _ := hP; (refine ⟨i + 1, _, ⟨hlt, by simp_all <;> omega⟩, by omega, ?_, rfl, ?_, ?_⟩; (focus (exact wkN)); (focus (exact fitsA)); (focus (exact FitsM.nil _))))
    | (have _ := hP; exact Fin.one rfl (RV.tmp (by rfl)) (clo_c _) ⟨by have hn := chOk_not (ok := entOk) (lt := entLt) (d := entD) (n := l.length) (by simp_all <;> omega : chAt entOk entLt entD l i = false) hlt; simp_all [isLog], rfl⟩)
    | (have _ := hQ; exact Fin.one rfl (RV.tmp (by rfl)) (clo_c _) ⟨by first | (simp_all [isLog]; done) | (simp_all [isLog] <;> omega), rfl⟩)

theorem isLog_i (l : List TEntry) (hl : l.length ≤ 1048576) (hp : ∀ e ∈ l, e.feature.gd) : VCalls Tryz.prog 117 [.ro 8 (l.map TEntry.en)] (fun r M => r = B (isLog l) ∧ M = []) := by
  refine VB Tryz.func117 48 (fun E hE => ?_)
  have hclo : Clo (.ro 8 (l.map TEntry.en)) := clo_list TEntry.clo_en
  repeat' ((first
    | (refine iAL ?_; first | refine AL.any ?_ | refine AL.U ?_ | refine AL.F ?_ | refine AL.T ?_ | refine AL.nil ?_)
    | ((with_reducible show DL ..); first | refine DL.any ?_ | refine DL.any (h := POp.k Tryz.func119 (hc := isFeat_i x.feature (by assumption))) ?_ | refine DL.U ?_ | refine DL.F ?_ | refine DL.T ?_ | refine DL.T (h := POp.k Tryz.func145 (hc := inr_v _ _ _)) ?_ | refine DL.nil ?_)
    | (refine iAW ?_; first | (refine AW.c0 ?_; constructor) | refine AW.dr (id := 6) 30 ?_ | refine AW.cT ?_ | refine AW.cF ?_ | (refine AW.c2 ?_ ?_ <;> (intro h; try simp only [bT, bF] at h)))
    | (
  refine AW.loopD hE (fun i : Nat => [.ro 8 (l.map TEntry.en), .any, .any, .any, .any, .any, .any, .any, .ro 8 (l.map TEntry.en), I ((l.map TEntry.en).length : Int), I (i : Int), .any, .any, .any, .any, .any, .any, .any, .any, .any, .any, .any, .any, .any, .any, .any, .any, .any, .any, .any, .any, .any, .any, .any, .any, .any, .any, .any, .any, .any, .any, .any, .any, .any, .any, .any, .any, .any, .any]) (fun i => []) (fun i => l.length - i) (fun i => i ≤ l.length ∧ chOk entOk entLt entD l i = true) 0 (by simp [chOk]) ?_ (by first | rfl | (simp [fil_zero]; done)) ?_
  (focus (exact wkI))
  intro i hi
  by_cases hlt : i < l.length
  case' pos =>
    have hP := True.intro
    obtain ⟨x, hx⟩ : ∃ x, l[i]? = some x := ⟨_, List.getElem?_eq_getElem hlt⟩
    have hg := map_get (f := TEntry.en) hx
    have ht := lt_true (f := TEntry.en) hlt
    have hn := next_ix hlt (by omega)
    have hgx := hp x (List.mem_of_getElem? hx)
    have hsu := chOk_succ entOk entLt entD l i
    have hclP : Clo (.ro 2 (x.feature.points.map TPoint.en)) := clo_list TPoint.clo_en
    have hcle : Clo (.agg x.en) := Clo.agg x.clo_en
    have hclf : Clo (.agg x.feature.en) := Clo.agg x.feature.clo_en
    rcases ch_cases entOk entLt entD TEntry.en hx hl with ⟨hI, hk⟩ | ⟨hI, hz, hk⟩ | ⟨hI, hz, h0, hp0, hk⟩
    rotate_left 1
    all_goals first | obtain ⟨q1, q2, q3⟩ := entOk_t hI | rcases entOk_f hI with q1 | ⟨q1, q2⟩ | ⟨q1, q2, q3⟩
  case' neg =>
    have hQ := True.intro
    have ht := lt_false (f := TEntry.en) hlt
    have e : i = l.length := by omega
    subst e
    try rw [List.take_length])) <;> (try dsimp only))
  all_goals first
    | (have _ := hP; (refine ⟨i + 1, _, ⟨hlt, by simp_all <;> omega⟩, by omega, ?_, rfl, ?_, ?_⟩; (focus (exact wkN)); (focus (exact fitsA)); (focus (exact FitsM.nil _))))
    | (have _ := hP; exact Fin.one rfl (RV.tmp (by rfl)) (clo_c _) ⟨by have hn := chOk_not (ok := entOk) (lt := entLt) (d := entD) (n := l.length) (by simp_all <;> omega : chAt entOk entLt entD l i = false) hlt; simp_all [isLog], rfl⟩)
    | (have _ := hQ; exact Fin.one rfl (RV.tmp (by rfl)) (clo_c _) ⟨by first | (simp_all [isLog]; done) | (simp_all [isLog] <;> omega), rfl⟩)
    | (exact Fin.one rfl (RV.tmp (by rfl)) (clo_c _) ⟨by simp_all [isLog] <;> omega, rfl⟩)


theorem isLevT_s (v : TLevel) (h : isLevel v = true) : VCalls Tryz.prog 133 [.agg v.en] (fun r M => r = B true ∧ M = []) := h ▸ isLevel_s v
theorem isLevT_i (v : TLevel) (h : isLevel v = true) : VCalls Tryz.prog 139 [.agg v.en] (fun r M => r = B true ∧ M = []) := h ▸ isLevel_i v

theorem shown_s (l : List TFeature) (v : TLevel) (hS : isSource l = true) (hg0 : ∀ x ∈ l, x.gd) (hV : isLevel v = true) : VCalls Tryz.prog 134 [.ro 5 (l.map TFeature.en), .agg v.en] (fun r M => r = .ro 1 ((shown l v).map enI) ∧ M = []) := by
  refine VB Tryz.func134 56 (fun E hE => ?_)
  have hclo : Clo (.ro 5 (l.map TFeature.en)) := clo_list TFeature.clo_en
  have hsl := src_len hS
  have hS2 := rkd_src hS v.rank
  have hg2 := rkd_gd hg0 v.rank
  have hsl2 := src_len hS2
  have hp := plsOf_ok hS2
  have hpl := hp.len
  have hfar : inr v.far 0 200 = true := by have := hV; unfold isLevel at this; simp only [Bool.and_eq_true] at this; exact this.1.2
  have htl := thn_len hS v
  have hclR : Clo (.ro 5 ((rkd l v.rank).map TFeature.en)) := clo_list TFeature.clo_en
  have hclT : Clo (.ro 1 ((thn l v).map enI)) := clo_list clo_enI
  have hclL : Clo (.agg v.en) := Clo.agg v.clo_en
  have hclp : Clo (.ro 4 ((plsOf (rkd l v.rank)).map TPlace.en)) := clo_list TPlace.clo_en
  dsimp only [TLevel.en]
  repeat' ((first
    | (refine iAL ?_; first | refine AL.any ?_ | refine AL.any (h := POp.k Tryz.func78 (hc := isSrcT_s l (by omega) hg0 hS)) ?_ | refine AL.any (h := POp.k Tryz.func199 (hc := rkd_s l v.rank hS hg0)) ?_ | refine AL.any (h := POp.k Tryz.func200 (hc := thin_s (plsOf (rkd l v.rank)) v.far hp hfar)) ?_ | refine AL.F ?_ | refine AL.T ?_ | refine AL.T (h := POp.k Tryz.func133 (hc := isLevT_s v hV)) ?_ | refine AL.T (h := POp.k Tryz.func135 (hc := has_s (thn l v) x.id (by omega))) ?_ | refine AL.nil ?_)
    | ((with_reducible show DL ..); first | refine DL.any ?_ | refine DL.any (h := POp.k Tryz.func201 (hc := pls_s (rkd l v.rank) hS2 hg2)) ?_ | refine DL.nil ?_)
    | (refine iAW ?_; first | (refine AW.freezeRet (t := 4) (id := 1) rfl rfl rfl rfl (clo_rows clo_enI) ?_; (try simp only [List.take_length]); try dsimp only [dput, List.set, cond_true, cond_false, Nat.zero_add, Nat.add_zero, Nat.reduceAdd, splice, List.take, List.drop, List.length, List.nil_append, List.cons_append, List.append, TPoint.en, TSegment.en, TBox.en, TFeature.en, TMeet.en, TPlace.en, TCover.en, TLabel.en, TPiece.en, TLevel.en, TChart.en, TReason.en, TEdit.en, TEntry.en, TEdition.en, TListing.en, TAtlas.en, TEvent.en, TWindow.en]) | (refine AW.c0 ?_; constructor) | refine AW.dr (id := 5) 4 ?_ | refine AW.cT ?_ | refine AW.cF ?_)
    | (
  refine AW.loopD hE (fun i : Nat => [.any, .any, .any, .ref 0 0 3 0 0, .any, .own 1 (shTo l v i).length, .ro 5 ((rkd l v.rank).map TFeature.en), .ro 1 ((thn l v).map enI), I (i : Int), .any, .any, .any, .any, .any, .any, .any, .any, .any, .any, .any, .any, .any, .any, .any, .any, .any, .any, .any, .any, .any, .any, .any, .any, .any, .any, .any, .any, .any, .any, .any, .any, .any, .any, .any, .any, .any, .any, .any, .any, .any, .any, .any, .any, .any, .any, .any, .any, .any]) (fun i => [some ⟨47, 3, 0, true, [v.en]⟩, some ⟨3, 1, (shTo l v i).length, false, (shTo l v i).map enI⟩]) (fun i => (rkd l v.rank).length - i) (fun i => i ≤ (rkd l v.rank).length) 0 (by simp) ?_ (by first | rfl | (simp [fil_zero]; done)) ?_
  (focus (exact wkI))
  intro i hi
  by_cases hlt : i < (rkd l v.rank).length
  case' pos =>
    have hP := True.intro
    obtain ⟨x, hx⟩ : ∃ x, (rkd l v.rank)[i]? = some x := ⟨_, List.getElem?_eq_getElem hlt⟩
    have hg := map_get (f := TFeature.en) hx
    have ht := lt_true (f := TFeature.en) hlt
    have hn := next_ix hlt (by omega)
    have hgx := hg2 x (List.mem_of_getElem? hx)
    have hcle : Clo (.agg x.en) := Clo.agg x.clo_en
    have hclP : Clo (.ro 2 (x.points.map TPoint.en)) := clo_list TPoint.clo_en
    have hln := shTo_len l v i
    rcases Bool.eq_false_or_eq_true (x.kind != 1) with hk | hk
    case' inl => obtain ⟨hm, hm2⟩ := shTo_y hx (by rw [shP, hk]; rfl)
    case' inr => rcases Bool.eq_false_or_eq_true (has (thn l v) x.id) with hh | hh
    case' inr.inl => obtain ⟨hm, hm2⟩ := shTo_y hx (by rw [shP, hk, hh]; rfl)
    case' inr.inr => obtain ⟨hm, hm2⟩ := shTo_n hx (by rw [shP, hk, hh]; rfl)
  case' neg =>
    have hQ := True.intro
    have ht := lt_false (f := TFeature.en) hlt
    have e : i = (rkd l v.rank).length := by omega
    subst e
    try rw [List.take_length]
    rw [shTo_all])) <;> (try dsimp only))
  all_goals first
    | (have _ := hP; (refine ⟨i + 1, _, hlt, by omega, ?_, by rw [hm, hm2] <;> rfl, ?_, ?_⟩; (focus (exact wkH)); (focus (exact fitsA)); (focus (exact fitsM_cons (clo_one v.clo_en) (fitsM_cons (clo_rows clo_enI) (FitsM.nil _))))))
    | (have _ := hQ; exact Fin.one rfl (RV.tmp (by rfl)) (clo_list clo_enI) ⟨rfl, rfl⟩)

theorem shown_i (l : List TFeature) (v : TLevel) (hS : isSource l = true) (hg0 : ∀ x ∈ l, x.gd) (hV : isLevel v = true) : VCalls Tryz.prog 140 [.ro 5 (l.map TFeature.en), .agg v.en] (fun r M => r = .own 0 0 ∧ M = [some ⟨3, 1, 0, false, (shown l v).map enI⟩]) := by
  refine VB Tryz.func140 44 (fun E hE => ?_)
  have hclo : Clo (.ro 5 (l.map TFeature.en)) := clo_list TFeature.clo_en
  have hsl := src_len hS
  have hS2 := rkd_src hS v.rank
  have hg2 := rkd_gd hg0 v.rank
  have hsl2 := src_len hS2
  have hp := plsOf_ok hS2
  have hpl := hp.len
  have hfar : inr v.far 0 200 = true := by have := hV; unfold isLevel at this; simp only [Bool.and_eq_true] at this; exact this.1.2
  have htl := thn_len hS v
  have hclR : Clo (.ro 5 ((rkd l v.rank).map TFeature.en)) := clo_list TFeature.clo_en
  have hclT : Clo (.ro 1 ((thn l v).map enI)) := clo_list clo_enI
  have hclL : Clo (.agg v.en) := Clo.agg v.clo_en
  have hclp : Clo (.ro 4 ((plsOf (rkd l v.rank)).map TPlace.en)) := clo_list TPlace.clo_en
  dsimp only [TLevel.en]
  repeat' ((first
    | (refine iAL ?_; first | refine AL.any ?_ | refine AL.any (h := POp.H [2] Tryz.func62 (hc := sortI (npTo l v (rkd l v.rank).length) (by have := npTo_len hS v (rkd l v.rank).length; omega))) ?_ | refine AL.any (h := POp.k Tryz.func80 (hc := isSrcT_i l (by omega) hg0 hS)) ?_ | refine AL.any (h := POp.k Tryz.func159 (hc := rkd_i l v.rank hS hg0)) ?_ | refine AL.any (h := POp.O Tryz.func208 (hc := thin_i (plsOf (rkd l v.rank)) v.far hp hfar)) ?_ | refine AL.T ?_ | refine AL.T (h := POp.k Tryz.func139 (hc := isLevT_i v hV)) ?_ | refine AL.nil ?_)
    | ((with_reducible show DL ..); first | refine DL.any ?_ | refine DL.any (h := POp.k Tryz.func158 (hc := pls_i (rkd l v.rank) hS2 hg2)) ?_ | refine DL.nil ?_)
    | (refine iAW ?_; first | (refine AW.c0 ?_; constructor) | refine AW.dr (id := 5) 4 ?_ | refine AW.cT ?_ | refine AW.cF ?_)
    | (
  refine AW.loopD hE (fun i : Nat => [.any, .any, .any, .any, .any, .own 2 ((((rkd l v.rank).take i).filter fun x => x.kind != 1).length), .any, .any, .any, .any, .any, .any, .any, .any, .any, .any, .any, .any, .any, .any, .any, .any, .any, .any, .any, .any, .any, .any, .ro 5 ((rkd l v.rank).map TFeature.en), I (((rkd l v.rank).map TFeature.en).length : Int), I (i : Int), .any, .any, .any, .any, .any, .any, .any, .any, .any, .any, .any, .any, .any, .any, .any]) (fun i => [some ⟨47, 3, 0, true, [v.en]⟩, some ⟨3, 1, 0, false, ([]).map enI⟩, some ⟨3, 1, ((((rkd l v.rank).take i).filter fun x => x.kind != 1).length), false, (npTo l v i).map enI⟩]) (fun i => (rkd l v.rank).length - i) (fun i => i ≤ (rkd l v.rank).length) 0 (by simp) ?_ (by first | rfl | ((simp [npTo, thn, TLevel.en]))) ?_
  (focus ((refine wkj ?_; repeat' with_reducible constructor) <;> first | rfl | (first | rfl | (simp [npTo, thn]))))
  intro i hi
  by_cases hlt : i < (rkd l v.rank).length
  case' pos =>
    have hP := True.intro
    obtain ⟨x, hx⟩ : ∃ x, (rkd l v.rank)[i]? = some x := ⟨_, List.getElem?_eq_getElem hlt⟩
    have hg := map_get (f := TFeature.en) hx
    have ht := lt_true (f := TFeature.en) hlt
    have hn := next_ix hlt (by omega)
    have hgx := hg2 x (List.mem_of_getElem? hx)
    have hcle : Clo (.agg x.en) := Clo.agg x.clo_en
    have hclP : Clo (.ro 2 (x.points.map TPoint.en)) := clo_list TPoint.clo_en
    rcases Bool.eq_false_or_eq_true (x.kind != 1) with hk | hk
    case' inl =>
      have hc0 : ((((rkd l v.rank).take (i + 1)).filter fun x => x.kind != 1).length) = ((((rkd l v.rank).take i).filter fun x => x.kind != 1).length) + 1 := by rw [filt_y hx hk]; simp
      have hm := npTo_y hx hk
    case' inr =>
      have hc0 : ((((rkd l v.rank).take (i + 1)).filter fun x => x.kind != 1).length) = ((((rkd l v.rank).take i).filter fun x => x.kind != 1).length) := by rw [filt_n hx hk]
      have hm0 := npTo_n hx hk
    all_goals have hnl := npTo_len hS v i
  case' neg =>
    have hQ := True.intro
    have ht := lt_false (f := TFeature.en) hlt
    have e : i = (rkd l v.rank).length := by omega
    subst e
    try rw [List.take_length])) <;> (try dsimp only))
  all_goals first
    | (have _ := hP; (refine ⟨i + 1, _, hlt, by omega, ?_, by first | (rw [hm, hc0] <;> rfl) | (rw [hm0, hc0] <;> rfl), ?_, ?_⟩; (focus ((refine wkj ?_; repeat' with_reducible constructor) <;> (first | rfl | (rw [hn]; done) | (rw [hc0]; done)))); (focus (exact fitsA)); (focus (exact fitsM_cons (clo_one v.clo_en) (fitsM_cons clo_rows_nil (fitsM_cons (clo_rows clo_enI) (FitsM.nil _)))))))
    | (have _ := hQ; exact Fin.r1 [2] rfl (RV.tmp (by rfl)) ⟨rfl, by rw [← shown_merge hS v] <;> rfl⟩)

theorem shown_i' (l : List TFeature) (v : TLevel) (hS : isSource l = true) (hg0 : ∀ x ∈ l, x.gd) (hV : isLevel v = true) : VCalls Tryz.prog 140 [.ro 5 (l.map TFeature.en), .agg v.en] (fun r M => r = .ro 1 ((shown l v).map enI) ∧ M = []) := VCalls.frz (shown_i l v hS hg0 hV) vwlT
end Go.Proofs.YtpffahmmklpifaaGreat.Abs
