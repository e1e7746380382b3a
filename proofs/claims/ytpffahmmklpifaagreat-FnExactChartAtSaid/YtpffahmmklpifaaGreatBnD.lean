/- Part D of the walk over abstract states and of the functions' walks. -/
import Derived.Test.YtpffahmmklpifaaGreatWkStep
import Derived.Test.YtpffahmmklpifaaGreatBnC
import Derived.Test.YtpffahmmklpifaaGreatBnB
import Derived.Test.YtpffahmmklpifaaGreatAbsSU
import Derived.Test.YtpffahmmklpifaaGreatShelf
import Derived.WalkKit
import Derived.Deep.LoopGhost
import Derived.Deep.Draws
import Derived.Shelf.RegionOpenPlain
import Derived.Shelf.SlSortCmp.NoneTotal
/- The walks of the marks and of their tests. -/
namespace Go.Proofs.YtpffahmmklpifaaGreat.Abs
open Go.Proofs Go.RowKit
set_option linter.unusedVariables false
set_option linter.unusedSimpArgs false
set_option maxRecDepth 100000
set_option maxHeartbeats 2000000
attribute [local irreducible] OpA AL AW DL DLM DLR DLS QOp POp VCalls VCallsI
theorem markText (k : Int) (h0 : 0 ≤ k) (hb : k ≤ 9223372036854775000) : VCalls Tryz.prog 82 [I k] (fun r M => r = S (mtx k) ∧ M = []) := by
 refine VCalls.bodyE Tryz.func82 rfl 19 rfl (fun E hE => ?_)
 simp only [List.reduceReplicate, List.cons_append, List.nil_append]
 repeat' ((first
  | (refine iAL ?_; first | refine AL.any ?_ | refine AL.nil ?_)
  | (refine iAW ?_; first | (refine AW.c0 ?_; constructor) | (refine AW.loopD hE (fun s : Nat × ByteArray => [I ((s.1 : Nat) : Int), .any, .any, S s.2, .any, .any, .any, .any, .any, .any, .any, .any, .any, .any, .any, .any, .any, .any, .any, .any]) (fun s => []) (fun s => s.1) (fun s => dgs s.1 s.2 = dgs k.toNat ⟨#[]⟩ ∧ s.1 + s.2.size ≤ 9223372036854775000) (k.toNat, ⟨#[]⟩) ⟨rfl, by have e : (⟨#[]⟩ : ByteArray).size = 0 := rfl; dsimp only; omega⟩ ?_ (by first | rfl | (simp; done)) ?_) | (refine AW.c2 ?_ ?_ <;> (intro h; try simp only [bT, bF] at h)))) <;> (try dsimp only))
 · exact Fin.one rfl (RV.tmp (by rfl)) (clo_c _) ⟨by rw [mtx, if_pos (by simpa using h)], rfl⟩
 · (refine wkj ?_; repeat' with_reducible constructor) <;> first | rfl | (rw [Int.toNat_of_nonneg h0])
 · rintro ⟨m, out⟩ ⟨hd, hsz⟩
   dsimp only at hd hsz ⊢
   by_cases hm : m = 0
   · subst hm
     have ht : decide (((0 : Nat) : Int) > 0) = false := by decide
     have hos : (⟨#[109]⟩ : ByteArray).size + out.size ≤ 9223372036854775807 := by have e : (⟨#[109]⟩ : ByteArray).size = 1 := rfl; omega
     rw [dgs_zero] at hd
     repeat' ((first
      | (refine iAL ?_; first | refine AL.any ?_ | refine AL.nil ?_)
      | (refine iAW ?_; first | (refine AW.c0 ?_; constructor) | refine AW.cT ?_ | refine AW.cF ?_ | (refine AW.c2 ?_ ?_ <;> (intro h; try simp only [bT, bF] at h)))
      | with_reducible refine ifP ?_
      | with_reducible refine ifN ?_) <;> (try dsimp only))
     all_goals exact Fin.one rfl (RV.tmp (by rfl)) (clo_c _) ⟨by rw [mtx, if_neg (by simpa using h), hd], rfl⟩
   · have ht : decide (((m : Nat) : Int) > 0) = true := by simp; omega
     have hv : IntKind.u8.wrap (IntKind.i64.wrap (48 + ((m : Nat) : Int).tmod 10)) = (((dgt m).toNat : Nat) : Int) := by
      have e1 : ((m : Nat) : Int).tmod 10 = ((m % 10 : Nat) : Int) := by rw [Int.ofNat_tmod]; rfl
      have h1 : m % 10 < 10 := Nat.mod_lt _ (by omega)
      rw [e1, w64 (by omega) (by omega), dgt_val]
      unfold IntKind.wrap
      simp [IntKind.bits, IntKind.signed]
      omega
     have hq : IntKind.i64.wrap (((m : Nat) : Int).tdiv 10) = ((m / 10 : Nat) : Int) := by
      have e1 : ((m : Nat) : Int).tdiv 10 = ((m / 10 : Nat) : Int) := by rw [Int.ofNat_tdiv]; rfl
      rw [e1, w64 (by omega) (by omega)]
     have hos : (⟨#[dgt m]⟩ : ByteArray).size + out.size ≤ 9223372036854775807 := by have e : (⟨#[dgt m]⟩ : ByteArray).size = 1 := rfl; omega
     have hdp := dgs_pos hm out
     repeat' ((first
      | (refine iAL ?_; first | refine AL.any ?_ | refine AL.nil ?_)
      | (refine iAW ?_; first | (refine AW.c0 ?_; constructor) | refine AW.cT ?_ | refine AW.cF ?_ | (refine AW.c2 ?_ ?_ <;> (intro h; try simp only [bT, bF] at h)))
      | with_reducible refine ifP ?_
      | with_reducible refine ifN ?_) <;> (try dsimp only))
     all_goals (refine ⟨(m / 10, ⟨#[dgt m]⟩ ++ out), _, ⟨by rw [← hdp]; exact hd, ?_⟩, ?_, ?_, rfl, ?_, ?_⟩)
     · dsimp only
       rw [ByteArray.size_append]
       have e : (⟨#[dgt m]⟩ : ByteArray).size = 1 := rfl
       omega
     · dsimp only
       omega
     · (refine wkj ?_; repeat' with_reducible constructor) <;> first | rfl | (rw [hq])
     · (repeat' (first | exact Fits.nil _ | refine Fits.cons ?_ ?_ | exact Fits.any _ | exact Fits.c _ _ | exact Fits.own (by rfl) | exact Fits.ref (by rfl) | exact Fits.clo (by assumption) | exact Fits.clo (clo_of (by rfl)) | exact Fits.clo (clo_fn _)))
     · exact FitsM.nil _

def TPoint.ct (x : TPoint) : Nat := 2
def TPoint.mrk (k : Int) (x : TPoint) : TPoint := ⟨k, k + 1⟩
theorem TPoint.ct_pos (x : TPoint) : 1 ≤ x.ct := by unfold TPoint.ct; omega
def TFeature.ct (x : TFeature) : Nat := 4 + ctL TPoint.ct x.points
def TFeature.mrk (k : Int) (x : TFeature) : TFeature := ⟨k, k + 1, k + 1 + 1, mtx (k + 1 + 1 + 1), mkL TPoint.mrk TPoint.ct (k + 1 + 1 + 1 + 1) x.points⟩
theorem TFeature.ct_pos (x : TFeature) : 1 ≤ x.ct := by unfold TFeature.ct; omega
def TEntry.ct (x : TEntry) : Nat := 7 + ctL TPoint.ct x.feature.points
def TEntry.mrk (k : Int) (x : TEntry) : TEntry := ⟨⟨k, k + 1, k + 1 + 1, mtx (k + 1 + 1 + 1), mkL TPoint.mrk TPoint.ct (k + 1 + 1 + 1 + 1) x.feature.points⟩, k + 1 + 1 + 1 + 1 + ((ctL TPoint.ct x.feature.points : Nat) : Int), k + 1 + 1 + 1 + 1 + ((ctL TPoint.ct x.feature.points : Nat) : Int) + 1, ((k + 1 + 1 + 1 + 1 + ((ctL TPoint.ct x.feature.points : Nat) : Int) + 1 + 1).tmod 3 == 0)⟩
theorem TEntry.ct_pos (x : TEntry) : 1 ≤ x.ct := by unfold TEntry.ct; omega
def TLevel.ct (x : TLevel) : Nat := 3
def TLevel.mrk (k : Int) (x : TLevel) : TLevel := ⟨k, k + 1, k + 1 + 1⟩
theorem TLevel.ct_pos (x : TLevel) : 1 ≤ x.ct := by unfold TLevel.ct; omega
def TEdition.ct (x : TEdition) : Nat := 2 + ctL TFeature.ct x.source
def TEdition.mrk (k : Int) (x : TEdition) : TEdition := ⟨k, mkL TFeature.mrk TFeature.ct (k + 1) x.source, k + 1 + ((ctL TFeature.ct x.source : Nat) : Int)⟩
theorem TEdition.ct_pos (x : TEdition) : 1 ≤ x.ct := by unfold TEdition.ct; omega
theorem markPointS (ty : TypeId) (l : List TPoint) (k : Int) (h0 : 0 ≤ k) (hb : k + ((ctL TPoint.ct l : Nat) : Int) ≤ 4611686018427387904) : ACalls Tryz.prog 83 [.own 0 0, I k] [some ⟨ty, 2, 0, false, l.map TPoint.en⟩] (fun r M => r = I (k + ((ctL TPoint.ct l : Nat) : Int)) ∧ ∃ Mx, M = [(⟨ty, 2, 0, false, (mkL TPoint.mrk TPoint.ct k l).map TPoint.en⟩ : Blk)].map some ++ Mx) := by
 have hll := len_ctL TPoint.ct_pos l
 refine ACalls.body Tryz.func83 rfl 25 rfl (fun E hE => ?_)
 simp only [List.reduceReplicate, List.cons_append, List.nil_append]
 repeat' ((first
  | (refine iAL ?_; first | refine AL.any ?_ | refine AL.nil ?_)
  | (refine iAW ?_; first | (refine AW.c0 ?_; constructor) | (refine AW.loopE (fun i : Nat => [.own 0 0, I (k + ((ctL TPoint.ct (l.take i) : Nat) : Int)), .any, .any, .any, I (i : Int), .any, .any, .any, .any, .any, .any, .any, .any, .any, .any, .any, .any, .any, .any, .any, .any, .any, .any, .any, .any, .any]) (fun i => [some ⟨ty, 2, 0, false, (mkd TPoint.mrk TPoint.ct k l i).map TPoint.en⟩]) (fun i => by rw [hE]; exact Nat.le_refl _) (fun i => l.length - i) (fun i => i ≤ l.length) 0 (Nat.zero_le _) ?_ (by rw [mkd_zero] <;> rfl) ?_))) <;> (try dsimp only))
 · (refine wkj ?_; repeat' with_reducible constructor) <;> first | rfl | (simp [ctL])
 · intro i hi
   by_cases hlt : i < l.length
   · obtain ⟨x, hx⟩ : ∃ x, l[i]? = some x := ⟨_, List.getElem?_eq_getElem hlt⟩
     have hn := next_ix hlt (by omega)
     obtain ⟨K, hK⟩ : ∃ K, K = k + ((ctL TPoint.ct (l.take i) : Nat) : Int) := ⟨_, rfl⟩
     rw [← hK]
     have hct := ctL_le (ct := TPoint.ct) hx
     have hcs := ctL_take (ct := TPoint.ct) hx
     have hcx : TPoint.ct x = 2 := rfl
     have hw0 : IntKind.i64.wrap (K + 1) = K + 1 := w64 (by omega) (by omega)
     have hw1 : IntKind.i64.wrap (K + 1 + 1) = K + 1 + 1 := w64 (by omega) (by omega)
     have hend : K + 1 + 1 = k + ((ctL TPoint.ct (l.take (i + 1)) : Nat) : Int) := by omega
     have hms : (mkd TPoint.mrk TPoint.ct k l (i + 1)).map TPoint.en = ((mkd TPoint.mrk TPoint.ct k l i).map TPoint.en).set ((i : Int)).toNat (TPoint.en (TPoint.mrk K x)) := by rw [mkd_succ hx, List.map_set, toNat_ix, hK]
     obtain ⟨A, hA⟩ : ∃ A, A = (mkd TPoint.mrk TPoint.ct k l i).map TPoint.en := ⟨_, rfl⟩
     rw [← hA] at hms
     have hAl : A.length = l.length := by rw [hA, List.length_map, mkd_len hi]
     have hix : ((i : Int)).toNat < A.length := by rw [toNat_ix]; omega
     have hself : A.set ((i : Int)).toNat (TPoint.en x) = A := by
      rw [toNat_ix]
      exact set_self_of (by rw [hA, List.getElem?_map, mkd_get hx]; rfl)
     have htA : ∀ r : List AV, decide ((i : Int) < ((A.set ((i : Int)).toNat r).length : Int)) = true := fun r => by rw [List.length_set]; simp; omega
     rw [← hA, ← hself]
     dsimp only [TPoint.en]
     repeat' ((first
      | (refine iAL ?_; first | refine AL.any ?_ | refine AL.nil ?_)
      | (refine iAW ?_; first | (rw [hw0]) | (rw [hw1]) | (refine AW.c0 ?_; constructor) | (refine AW.cT ?_ (hb := htA _)) | (refine AW.cF ?_ (hb := htA _)) | refine AW.cT ?_ | refine AW.cF ?_ | (refine AW.c2 ?_ ?_ <;> (intro h; try simp only [bT, bF] at h)))
      | with_reducible refine ifP ?_
      | with_reducible refine ifN ?_) <;> (try dsimp only))
     all_goals (refine ⟨i + 1, [], hlt, by omega, ?_, ?_, ?_, ?_⟩; (focus ((refine wkj ?_; repeat' with_reducible constructor) <;> first | rfl | (rw [hend]) | (rw [hn]))); (focus (rw [hms] <;> rfl)); (focus ((repeat' (first | exact Fits.nil _ | refine Fits.cons ?_ ?_ | exact Fits.any _ | exact Fits.c _ _ | exact Fits.own (by rfl) | exact Fits.ref (by rfl) | exact Fits.clo (by assumption) | exact Fits.clo (clo_of (by rfl)) | exact Fits.clo (clo_fn _))))); (focus (exact fits_dcl (DCl.map (fun _ => rfl)))))
   · have e : i = l.length := by omega
     subst e
     have hml : (mkd TPoint.mrk TPoint.ct k l l.length).length = l.length := mkd_len (Nat.le_refl _)
     have ht : decide ((l.length : Int) < ((((mkd TPoint.mrk TPoint.ct k l l.length).map TPoint.en).length : Nat) : Int)) = false := by rw [List.length_map, hml]; simp
     rw [List.take_length]
     repeat' ((first
      | (refine iAL ?_; first | refine AL.any ?_ | refine AL.nil ?_)
      | (refine iAW ?_; first | (refine AW.c0 ?_; constructor) | (refine AW.cT ?_ (hb := ht)) | (refine AW.cF ?_ (hb := ht)) | refine AW.cT ?_ | refine AW.cF ?_ | (refine AW.c2 ?_ ?_ <;> (intro h; try simp only [bT, bF] at h)))
      | with_reducible refine ifP ?_
      | with_reducible refine ifN ?_) <;> (try dsimp only))
     all_goals exact FinA.one rfl (RV.tmp (by rfl)) ⟨rfl, [], by rw [mkd_all] <;> rfl⟩

theorem heldPointS (l : List TPoint) (k : Int) (h0 : 0 ≤ k) (hb : k + ((ctL TPoint.ct l : Nat) : Int) ≤ 4611686018427387904) : VCalls Tryz.prog 164 [.ro 2 ((mkL TPoint.mrk TPoint.ct k l).map TPoint.en), I k] (fun r M => r = I (k + ((ctL TPoint.ct l : Nat) : Int)) ∧ M = []) := by
 have hll := len_ctL TPoint.ct_pos l
 have hclo : Clo (.ro 2 ((mkL TPoint.mrk TPoint.ct k l).map TPoint.en)) := clo_list TPoint.clo_en
 refine VCalls.bodyE Tryz.func164 rfl 29 rfl (fun E hE => ?_)
 simp only [List.reduceReplicate, List.cons_append, List.nil_append]
 repeat' ((first
  | (refine iAL ?_; first | refine AL.any ?_ | refine AL.nil ?_)
  | (refine iAW ?_; first | (refine AW.c0 ?_; constructor) | (refine AW.loopD hE (fun i : Nat => [.ro 2 ((mkL TPoint.mrk TPoint.ct k l).map TPoint.en), I (k + ((ctL TPoint.ct (l.take i) : Nat) : Int)), .any, .any, .any, I (i : Int), .any, .any, .any, .any, .any, .any, .any, .any, .any, .any, .any, .any, .any, .any, .any, .any, .any, .any, .any, .any, .any, .any, .any, .any, .any]) (fun i => []) (fun i => l.length - i) (fun i => i ≤ l.length) 0 (Nat.zero_le _) ?_ rfl ?_))) <;> (try dsimp only))
 · (refine wkj ?_; repeat' with_reducible constructor) <;> first | rfl | (simp [ctL])
 · intro i hi
   by_cases hlt : i < l.length
   · obtain ⟨x, hx⟩ : ∃ x, l[i]? = some x := ⟨_, List.getElem?_eq_getElem hlt⟩
     have hn := next_ix hlt (by omega)
     obtain ⟨K, hK⟩ : ∃ K, K = k + ((ctL TPoint.ct (l.take i) : Nat) : Int) := ⟨_, rfl⟩
     rw [← hK]
     have hct := ctL_le (ct := TPoint.ct) hx
     have hcs := ctL_take (ct := TPoint.ct) hx
     have hgm := map_get (f := TPoint.en) (mkL_get (mk := TPoint.mrk) (ct := TPoint.ct) (k := k) hx)
     rw [← hK] at hgm
     dsimp only [TPoint.mrk, TPoint.en] at hgm
     have hcx : TPoint.ct x = 2 := rfl
     have hw0 : IntKind.i64.wrap (K + 1) = K + 1 := w64 (by omega) (by omega)
     have hw1 : IntKind.i64.wrap (K + 1 + 1) = K + 1 + 1 := w64 (by omega) (by omega)
     have hend : K + 1 + 1 = k + ((ctL TPoint.ct (l.take (i + 1)) : Nat) : Int) := by omega
     have ht : decide ((i : Int) < ((((mkL TPoint.mrk TPoint.ct k l).map TPoint.en).length : Nat) : Int)) = true := by rw [List.length_map, mkL_len]; simp; omega
     repeat' ((first
      | (refine iAL ?_; first | refine AL.any ?_ | refine AL.nil ?_)
      | (refine iAW ?_; first | (rw [hw0]) | (rw [hw1]) | (refine AW.c0 ?_; constructor) | refine AW.cT ?_ | refine AW.cF ?_ | (refine AW.c2 ?_ ?_ <;> (intro h; try simp only [bT, bF] at h)))
      | with_reducible refine ifP ?_
      | with_reducible refine ifN ?_) <;> (try dsimp only))
     all_goals (refine ⟨i + 1, [], hlt, by omega, ?_, rfl, ?_, ?_⟩; (focus ((refine wkj ?_; repeat' with_reducible constructor) <;> first | rfl | (rw [hend]) | (rw [hn]))); (focus ((repeat' (first | exact Fits.nil _ | refine Fits.cons ?_ ?_ | exact Fits.any _ | exact Fits.c _ _ | exact Fits.own (by rfl) | exact Fits.ref (by rfl) | exact Fits.clo (by assumption) | exact Fits.clo (clo_of (by rfl)) | exact Fits.clo (clo_fn _))))); (focus (exact FitsM.nil _)))
   · have e : i = l.length := by omega
     subst e
     have ht : decide ((l.length : Int) < ((((mkL TPoint.mrk TPoint.ct k l).map TPoint.en).length : Nat) : Int)) = false := by rw [List.length_map, mkL_len]; simp
     rw [List.take_length]
     repeat' ((first
      | (refine iAL ?_; first | refine AL.any ?_ | refine AL.nil ?_)
      | (refine iAW ?_; first | (refine AW.c0 ?_; constructor) | refine AW.cT ?_ | refine AW.cF ?_ | (refine AW.c2 ?_ ?_ <;> (intro h; try simp only [bT, bF] at h)))
      | with_reducible refine ifP ?_
      | with_reducible refine ifN ?_) <;> (try dsimp only))
     all_goals exact Fin.one rfl (RV.tmp (by rfl)) (clo_c _) ⟨rfl, rfl⟩

theorem markFeatureS (ty : TypeId) (l : List TFeature) (k : Int) (h0 : 0 ≤ k) (hb : k + ((ctL TFeature.ct l : Nat) : Int) ≤ 4611686018427387904) : ACalls Tryz.prog 31 [.own 0 0, I k] [some ⟨ty, 5, 0, false, l.map TFeature.ed⟩] (fun r M => r = I (k + ((ctL TFeature.ct l : Nat) : Int)) ∧ ∃ Mx, M = [(⟨ty, 5, 0, false, (mkL TFeature.mrk TFeature.ct k l).map TFeature.ed⟩ : Blk)].map some ++ Mx) := by
 have hll := len_ctL TFeature.ct_pos l
 refine ACalls.body Tryz.func31 rfl 47 rfl (fun E hE => ?_)
 simp only [List.reduceReplicate, List.cons_append, List.nil_append]
 repeat' ((first
  | (refine iAL ?_; first | refine AL.any ?_ | refine AL.nil ?_)
  | (refine iAW ?_; first | (refine AW.c0 ?_; constructor) | (refine AW.loopE (fun i : Nat => [.own 0 0, I (k + ((ctL TFeature.ct (l.take i) : Nat) : Int)), .any, .any, .any, I (i : Int), .any, .any, .any, .any, .any, .any, .any, .any, .any, .any, .any, .any, .any, .any, .any, .any, .any, .any, .any, .any, .any, .any, .any, .any, .any, .any, .any, .any, .any, .any, .any, .any, .any, .any, .any, .any, .any, .any, .any, .any, .any, .any, .any]) (fun i => [some ⟨ty, 5, 0, false, (mkd TFeature.mrk TFeature.ct k l i).map TFeature.ed⟩]) (fun i => by rw [hE]; exact Nat.le_refl _) (fun i => l.length - i) (fun i => i ≤ l.length) 0 (Nat.zero_le _) ?_ (by rw [mkd_zero] <;> rfl) ?_))) <;> (try dsimp only))
 · (refine wkj ?_; repeat' with_reducible constructor) <;> first | rfl | (simp [ctL])
 · intro i hi
   by_cases hlt : i < l.length
   · obtain ⟨x, hx⟩ : ∃ x, l[i]? = some x := ⟨_, List.getElem?_eq_getElem hlt⟩
     have hn := next_ix hlt (by omega)
     obtain ⟨K, hK⟩ : ∃ K, K = k + ((ctL TFeature.ct (l.take i) : Nat) : Int) := ⟨_, rfl⟩
     rw [← hK]
     have hct := ctL_le (ct := TFeature.ct) hx
     have hcs := ctL_take (ct := TFeature.ct) hx
     have hcx : TFeature.ct x = 4 + ctL TPoint.ct x.points := rfl
     have hw0 : IntKind.i64.wrap (K + 1) = K + 1 := w64 (by omega) (by omega)
     have hw1 : IntKind.i64.wrap (K + 1 + 1) = K + 1 + 1 := w64 (by omega) (by omega)
     have hw2 : IntKind.i64.wrap (K + 1 + 1 + 1) = K + 1 + 1 + 1 := w64 (by omega) (by omega)
     have hw3 : IntKind.i64.wrap (K + 1 + 1 + 1 + 1) = K + 1 + 1 + 1 + 1 := w64 (by omega) (by omega)
     have hend : K + 1 + 1 + 1 + 1 + ((ctL TPoint.ct x.points : Nat) : Int) = k + ((ctL TFeature.ct (l.take (i + 1)) : Nat) : Int) := by omega
     have hms : (mkd TFeature.mrk TFeature.ct k l (i + 1)).map TFeature.ed = ((mkd TFeature.mrk TFeature.ct k l i).map TFeature.ed).set ((i : Int)).toNat (TFeature.ed (TFeature.mrk K x)) := by rw [mkd_succ hx, List.map_set, toNat_ix, hK]
     obtain ⟨A, hA⟩ : ∃ A, A = (mkd TFeature.mrk TFeature.ct k l i).map TFeature.ed := ⟨_, rfl⟩
     rw [← hA] at hms
     have hAl : A.length = l.length := by rw [hA, List.length_map, mkd_len hi]
     have hix : ((i : Int)).toNat < A.length := by rw [toNat_ix]; omega
     have hself : A.set ((i : Int)).toNat (TFeature.ed x) = A := by
      rw [toNat_ix]
      exact set_self_of (by rw [hA, List.getElem?_map, mkd_get hx]; rfl)
     have htA : ∀ r : List AV, decide ((i : Int) < ((A.set ((i : Int)).toNat r).length : Int)) = true := fun r => by rw [List.length_set]; simp; omega
     rw [← hA, ← hself]
     dsimp only [TFeature.ed]
     refine AW.ghE (GhE.exposeS (q := 0) (i := ((i : Int)).toNat) (j := 4) rfl hix rfl TPoint.dpr) (fun ty1 => ?_)
     dsimp only [List.set, List.length, List.cons_append, List.nil_append, List.append, Nat.zero_add, Nat.reduceAdd]
     repeat' ((first
      | (refine iAL ?_; first | refine AL.any (h := POp.gh (POp.H [1] Tryz.func83 (hc := markPointS ty1 x.points (K + 1 + 1 + 1 + 1) (by omega) (by omega))) (Gh.absorbS (q := 0) (id := 1) (j := 4) rfl (by assumption) rfl rfl rfl rfl rfl (DCl.map (fun _ => rfl)) TPoint.und)) ?_ | refine AL.any ?_ | refine AL.any (h := POp.k Tryz.func82 (hc := markText _ (by omega) (by omega))) ?_ | refine AL.nil ?_)
      | (refine iAW ?_; first | (rw [hw0]) | (rw [hw1]) | (rw [hw2]) | (rw [hw3]) | (refine AW.c0 ?_; constructor) | (refine AW.cT ?_ (hb := htA _)) | (refine AW.cF ?_ (hb := htA _)) | refine AW.cT ?_ | refine AW.cF ?_ | (refine AW.c2 ?_ ?_ <;> (intro h; try simp only [bT, bF] at h)))
      | with_reducible refine ifP ?_
      | with_reducible refine ifN ?_) <;> (try dsimp only))
     all_goals (refine ⟨i + 1, [none], hlt, by omega, ?_, ?_, ?_, ?_⟩; (focus ((refine wkj ?_; repeat' with_reducible constructor) <;> first | rfl | (rw [hend]) | (rw [hn]))); (focus (rw [hms] <;> rfl)); (focus ((repeat' (first | exact Fits.nil _ | refine Fits.cons ?_ ?_ | exact Fits.any _ | exact Fits.c _ _ | exact Fits.own (by rfl) | exact Fits.ref (by rfl) | exact Fits.clo (by assumption) | exact Fits.clo (clo_of (by rfl)) | exact Fits.clo (clo_fn _))))); (focus (exact fits_dcl (DCl.map (fun _ => rfl)))))
   · have e : i = l.length := by omega
     subst e
     have hml : (mkd TFeature.mrk TFeature.ct k l l.length).length = l.length := mkd_len (Nat.le_refl _)
     have ht : decide ((l.length : Int) < ((((mkd TFeature.mrk TFeature.ct k l l.length).map TFeature.ed).length : Nat) : Int)) = false := by rw [List.length_map, hml]; simp
     rw [List.take_length]
     repeat' ((first
      | (refine iAL ?_; first | refine AL.any ?_ | refine AL.any (h := POp.k Tryz.func82 (hc := markText _ (by omega) (by omega))) ?_ | refine AL.nil ?_)
      | (refine iAW ?_; first | (refine AW.c0 ?_; constructor) | (refine AW.cT ?_ (hb := ht)) | (refine AW.cF ?_ (hb := ht)) | refine AW.cT ?_ | refine AW.cF ?_ | (refine AW.c2 ?_ ?_ <;> (intro h; try simp only [bT, bF] at h)))
      | with_reducible refine ifP ?_
      | with_reducible refine ifN ?_) <;> (try dsimp only))
     all_goals exact FinA.one rfl (RV.tmp (by rfl)) ⟨rfl, [], by rw [mkd_all] <;> rfl⟩

theorem heldFeatureS (l : List TFeature) (k : Int) (h0 : 0 ≤ k) (hb : k + ((ctL TFeature.ct l : Nat) : Int) ≤ 4611686018427387904) : VCalls Tryz.prog 101 [.ro 5 ((mkL TFeature.mrk TFeature.ct k l).map TFeature.en), I k] (fun r M => r = I (k + ((ctL TFeature.ct l : Nat) : Int)) ∧ M = []) := by
 have hll := len_ctL TFeature.ct_pos l
 have hclo : Clo (.ro 5 ((mkL TFeature.mrk TFeature.ct k l).map TFeature.en)) := clo_list TFeature.clo_en
 refine VCalls.bodyE Tryz.func101 rfl 57 rfl (fun E hE => ?_)
 simp only [List.reduceReplicate, List.cons_append, List.nil_append]
 repeat' ((first
  | (refine iAL ?_; first | refine AL.any ?_ | refine AL.nil ?_)
  | (refine iAW ?_; first | (refine AW.c0 ?_; constructor) | (refine AW.loopD hE (fun i : Nat => [.ro 5 ((mkL TFeature.mrk TFeature.ct k l).map TFeature.en), I (k + ((ctL TFeature.ct (l.take i) : Nat) : Int)), .any, .any, .any, I (i : Int), .any, .any, .any, .any, .any, .any, .any, .any, .any, .any, .any, .any, .any, .any, .any, .any, .any, .any, .any, .any, .any, .any, .any, .any, .any, .any, .any, .any, .any, .any, .any, .any, .any, .any, .any, .any, .any, .any, .any, .any, .any, .any, .any, .any, .any, .any, .any, .any, .any, .any, .any, .any, .any]) (fun i => []) (fun i => l.length - i) (fun i => i ≤ l.length) 0 (Nat.zero_le _) ?_ rfl ?_))) <;> (try dsimp only))
 · (refine wkj ?_; repeat' with_reducible constructor) <;> first | rfl | (simp [ctL])
 · intro i hi
   by_cases hlt : i < l.length
   · obtain ⟨x, hx⟩ : ∃ x, l[i]? = some x := ⟨_, List.getElem?_eq_getElem hlt⟩
     have hn := next_ix hlt (by omega)
     obtain ⟨K, hK⟩ : ∃ K, K = k + ((ctL TFeature.ct (l.take i) : Nat) : Int) := ⟨_, rfl⟩
     rw [← hK]
     have hct := ctL_le (ct := TFeature.ct) hx
     have hcs := ctL_take (ct := TFeature.ct) hx
     have hgm := map_get (f := TFeature.en) (mkL_get (mk := TFeature.mrk) (ct := TFeature.ct) (k := k) hx)
     rw [← hK] at hgm
     dsimp only [TFeature.mrk, TFeature.en] at hgm
     have hcx : TFeature.ct x = 4 + ctL TPoint.ct x.points := rfl
     have hw0 : IntKind.i64.wrap (K + 1) = K + 1 := w64 (by omega) (by omega)
     have hw1 : IntKind.i64.wrap (K + 1 + 1) = K + 1 + 1 := w64 (by omega) (by omega)
     have hw2 : IntKind.i64.wrap (K + 1 + 1 + 1) = K + 1 + 1 + 1 := w64 (by omega) (by omega)
     have hw3 : IntKind.i64.wrap (K + 1 + 1 + 1 + 1) = K + 1 + 1 + 1 + 1 := w64 (by omega) (by omega)
     have hnn0 : decide (K + 1 + 1 + 1 + 1 + ((ctL TPoint.ct x.points : Nat) : Int) < 0) = false := by simp; omega
     have hcr0 : Clo (.ro 2 ((mkL TPoint.mrk TPoint.ct (K + 1 + 1 + 1 + 1) x.points).map TPoint.en)) := clo_list TPoint.clo_en
     have hend : K + 1 + 1 + 1 + 1 + ((ctL TPoint.ct x.points : Nat) : Int) = k + ((ctL TFeature.ct (l.take (i + 1)) : Nat) : Int) := by omega
     have ht : decide ((i : Int) < ((((mkL TFeature.mrk TFeature.ct k l).map TFeature.en).length : Nat) : Int)) = true := by rw [List.length_map, mkL_len]; simp; omega
     repeat' ((first
      | (refine iAL ?_; first | refine AL.any ?_ | refine AL.any (h := POp.k Tryz.func164 (hc := heldPointS _ _ (by omega) (by omega))) ?_ | refine AL.nil ?_)
      | ((with_reducible show DL ..); first | refine DL.any ?_ | refine DL.any (h := POp.k Tryz.func82 (hc := markText _ (by omega) (by omega))) ?_ | refine DL.nil ?_)
      | (refine iAW ?_; first | (rw [hw0]) | (rw [hw1]) | (rw [hw2]) | (rw [hw3]) | (refine AW.c0 ?_; constructor) | refine AW.dr (id := 13) 7 ?_ | refine AW.cT ?_ | refine AW.cF ?_ | (refine AW.c2 ?_ ?_ <;> (intro h; try simp only [bT, bF] at h)))
      | with_reducible refine ifP ?_
      | with_reducible refine ifN ?_) <;> (try dsimp only))
     all_goals (refine ⟨i + 1, [], hlt, by omega, ?_, rfl, ?_, ?_⟩; (focus ((refine wkj ?_; repeat' with_reducible constructor) <;> first | rfl | (rw [hend]) | (rw [hn]))); (focus ((repeat' (first | exact Fits.nil _ | refine Fits.cons ?_ ?_ | exact Fits.any _ | exact Fits.c _ _ | exact Fits.own (by rfl) | exact Fits.ref (by rfl) | exact Fits.clo (by assumption) | exact Fits.clo (clo_of (by rfl)) | exact Fits.clo (clo_fn _))))); (focus (exact FitsM.nil _)))
   · have e : i = l.length := by omega
     subst e
     have ht : decide ((l.length : Int) < ((((mkL TFeature.mrk TFeature.ct k l).map TFeature.en).length : Nat) : Int)) = false := by rw [List.length_map, mkL_len]; simp
     rw [List.take_length]
     repeat' ((first
      | (refine iAL ?_; first | refine AL.any ?_ | refine AL.any (h := POp.k Tryz.func164 (hc := heldPointS _ _ (by omega) (by omega))) ?_ | refine AL.nil ?_)
      | ((with_reducible show DL ..); first | refine DL.any ?_ | refine DL.any (h := POp.k Tryz.func82 (hc := markText _ (by omega) (by omega))) ?_ | refine DL.nil ?_)
      | (refine iAW ?_; first | (refine AW.c0 ?_; constructor) | refine AW.dr (id := 13) 7 ?_ | refine AW.cT ?_ | refine AW.cF ?_ | (refine AW.c2 ?_ ?_ <;> (intro h; try simp only [bT, bF] at h)))
      | with_reducible refine ifP ?_
      | with_reducible refine ifN ?_) <;> (try dsimp only))
     all_goals exact Fin.one rfl (RV.tmp (by rfl)) (clo_c _) ⟨rfl, rfl⟩

theorem markEntryS (ty : TypeId) (l : List TEntry) (k : Int) (h0 : 0 ≤ k) (hb : k + ((ctL TEntry.ct l : Nat) : Int) ≤ 4611686018427387904) : ACalls Tryz.prog 98 [.own 0 0, I k] [some ⟨ty, 8, 0, false, l.map TEntry.ed⟩] (fun r M => r = I (k + ((ctL TEntry.ct l : Nat) : Int)) ∧ ∃ Mx, M = [(⟨ty, 8, 0, false, (mkL TEntry.mrk TEntry.ct k l).map TEntry.ed⟩ : Blk)].map some ++ Mx) := by
 have hll := len_ctL TEntry.ct_pos l
 refine ACalls.body Tryz.func98 rfl 75 rfl (fun E hE => ?_)
 simp only [List.reduceReplicate, List.cons_append, List.nil_append]
 repeat' ((first
  | (refine iAL ?_; first | refine AL.any ?_ | refine AL.nil ?_)
  | (refine iAW ?_; first | (refine AW.c0 ?_; constructor) | (refine AW.loopE (fun i : Nat => (.own 0 0 :: I (k + ((ctL TEntry.ct (l.take i) : Nat) : Int)) :: .any :: .any :: .any :: I (i : Int) :: .any :: .any :: .any :: .any :: .any :: .any :: .any :: .any :: .any :: .any :: .any :: .any :: .any :: .any :: .any :: .any :: .any :: .any :: .any :: .any :: .any :: .any :: .any :: .any :: .any :: .any :: .any :: .any :: .any :: .any :: .any :: .any :: .any :: .any :: .any :: .any :: .any :: .any :: .any :: .any :: .any :: .any :: .any :: .any :: .any :: .any :: .any :: .any :: .any :: .any :: .any :: .any :: .any :: .any :: .any :: .any :: .any :: .any :: .any :: .any :: .any :: .any :: .any :: .any :: .any :: .any :: .any :: .any :: .any :: .any :: .any :: [])) (fun i => [some ⟨ty, 8, 0, false, (mkd TEntry.mrk TEntry.ct k l i).map TEntry.ed⟩]) (fun i => by rw [hE]; exact Nat.le_refl _) (fun i => l.length - i) (fun i => i ≤ l.length) 0 (Nat.zero_le _) ?_ (by rw [mkd_zero] <;> rfl) ?_))) <;> (try dsimp only))
 · (refine wkj ?_; repeat' with_reducible constructor) <;> first | rfl | (simp [ctL])
 · intro i hi
   by_cases hlt : i < l.length
   · obtain ⟨x, hx⟩ : ∃ x, l[i]? = some x := ⟨_, List.getElem?_eq_getElem hlt⟩
     have hn := next_ix hlt (by omega)
     obtain ⟨K, hK⟩ : ∃ K, K = k + ((ctL TEntry.ct (l.take i) : Nat) : Int) := ⟨_, rfl⟩
     rw [← hK]
     have hct := ctL_le (ct := TEntry.ct) hx
     have hcs := ctL_take (ct := TEntry.ct) hx
     have hcx : TEntry.ct x = 7 + ctL TPoint.ct x.feature.points := rfl
     have hw0 : IntKind.i64.wrap (K + 1) = K + 1 := w64 (by omega) (by omega)
     have hw1 : IntKind.i64.wrap (K + 1 + 1) = K + 1 + 1 := w64 (by omega) (by omega)
     have hw2 : IntKind.i64.wrap (K + 1 + 1 + 1) = K + 1 + 1 + 1 := w64 (by omega) (by omega)
     have hw3 : IntKind.i64.wrap (K + 1 + 1 + 1 + 1) = K + 1 + 1 + 1 + 1 := w64 (by omega) (by omega)
     have hw4 : IntKind.i64.wrap (K + 1 + 1 + 1 + 1 + ((ctL TPoint.ct x.feature.points : Nat) : Int) + 1) = K + 1 + 1 + 1 + 1 + ((ctL TPoint.ct x.feature.points : Nat) : Int) + 1 := w64 (by omega) (by omega)
     have hw5 : IntKind.i64.wrap (K + 1 + 1 + 1 + 1 + ((ctL TPoint.ct x.feature.points : Nat) : Int) + 1 + 1) = K + 1 + 1 + 1 + 1 + ((ctL TPoint.ct x.feature.points : Nat) : Int) + 1 + 1 := w64 (by omega) (by omega)
     have hw6 : IntKind.i64.wrap (K + 1 + 1 + 1 + 1 + ((ctL TPoint.ct x.feature.points : Nat) : Int) + 1 + 1 + 1) = K + 1 + 1 + 1 + 1 + ((ctL TPoint.ct x.feature.points : Nat) : Int) + 1 + 1 + 1 := w64 (by omega) (by omega)
     have hend : K + 1 + 1 + 1 + 1 + ((ctL TPoint.ct x.feature.points : Nat) : Int) + 1 + 1 + 1 = k + ((ctL TEntry.ct (l.take (i + 1)) : Nat) : Int) := by omega
     have hms : (mkd TEntry.mrk TEntry.ct k l (i + 1)).map TEntry.ed = ((mkd TEntry.mrk TEntry.ct k l i).map TEntry.ed).set ((i : Int)).toNat (TEntry.ed (TEntry.mrk K x)) := by rw [mkd_succ hx, List.map_set, toNat_ix, hK]
     obtain ⟨A, hA⟩ : ∃ A, A = (mkd TEntry.mrk TEntry.ct k l i).map TEntry.ed := ⟨_, rfl⟩
     rw [← hA] at hms
     have hAl : A.length = l.length := by rw [hA, List.length_map, mkd_len hi]
     have hix : ((i : Int)).toNat < A.length := by rw [toNat_ix]; omega
     have hself : A.set ((i : Int)).toNat (TEntry.ed x) = A := by
      rw [toNat_ix]
      exact set_self_of (by rw [hA, List.getElem?_map, mkd_get hx]; rfl)
     have htA : ∀ r : List AV, decide ((i : Int) < ((A.set ((i : Int)).toNat r).length : Int)) = true := fun r => by rw [List.length_set]; simp; omega
     rw [← hA, ← hself]
     dsimp only [TEntry.ed]
     refine AW.ghE (GhE.exposeS (q := 0) (i := ((i : Int)).toNat) (j := 4) rfl hix rfl TPoint.dpr) (fun ty1 => ?_)
     dsimp only [List.set, List.length, List.cons_append, List.nil_append, List.append, Nat.zero_add, Nat.reduceAdd]
     repeat' ((first
      | (refine iAL ?_; first | refine AL.any (h := POp.gh (POp.H [1] Tryz.func83 (hc := markPointS ty1 x.feature.points (K + 1 + 1 + 1 + 1) (by omega) (by omega))) (Gh.absorbS (q := 0) (id := 1) (j := 4) rfl (by assumption) rfl rfl rfl rfl rfl (DCl.map (fun _ => rfl)) TPoint.und)) ?_ | refine AL.any ?_ | refine AL.any (h := POp.k Tryz.func82 (hc := markText _ (by omega) (by omega))) ?_ | refine AL.nil ?_)
      | (refine iAW ?_; first | (rw [hw0]) | (rw [hw1]) | (rw [hw2]) | (rw [hw3]) | (rw [hw4]) | (rw [hw5]) | (rw [hw6]) | (refine AW.c0 ?_; constructor) | (refine AW.cT ?_ (hb := htA _)) | (refine AW.cF ?_ (hb := htA _)) | refine AW.cT ?_ | refine AW.cF ?_ | (refine AW.c2 ?_ ?_ <;> (intro h; try simp only [bT, bF] at h)))
      | with_reducible refine ifP ?_
      | with_reducible refine ifN ?_) <;> (try dsimp only))
     all_goals (refine ⟨i + 1, [none], hlt, by omega, ?_, ?_, ?_, ?_⟩; (focus ((refine wkj ?_; repeat' with_reducible constructor) <;> first | rfl | (rw [hend]) | (rw [hn]))); (focus (rw [hms] <;> rfl)); (focus ((repeat' (first | exact Fits.nil _ | refine Fits.cons ?_ ?_ | exact Fits.any _ | exact Fits.c _ _ | exact Fits.own (by rfl) | exact Fits.ref (by rfl) | exact Fits.clo (by assumption) | exact Fits.clo (clo_of (by rfl)) | exact Fits.clo (clo_fn _))))); (focus (exact fits_dcl (DCl.map (fun _ => rfl)))))
   · have e : i = l.length := by omega
     subst e
     have hml : (mkd TEntry.mrk TEntry.ct k l l.length).length = l.length := mkd_len (Nat.le_refl _)
     have ht : decide ((l.length : Int) < ((((mkd TEntry.mrk TEntry.ct k l l.length).map TEntry.ed).length : Nat) : Int)) = false := by rw [List.length_map, hml]; simp
     rw [List.take_length]
     repeat' ((first
      | (refine iAL ?_; first | refine AL.any ?_ | refine AL.any (h := POp.k Tryz.func82 (hc := markText _ (by omega) (by omega))) ?_ | refine AL.nil ?_)
      | (refine iAW ?_; first | (refine AW.c0 ?_; constructor) | (refine AW.cT ?_ (hb := ht)) | (refine AW.cF ?_ (hb := ht)) | refine AW.cT ?_ | refine AW.cF ?_ | (refine AW.c2 ?_ ?_ <;> (intro h; try simp only [bT, bF] at h)))
      | with_reducible refine ifP ?_
      | with_reducible refine ifN ?_) <;> (try dsimp only))
     all_goals exact FinA.one rfl (RV.tmp (by rfl)) ⟨rfl, [], by rw [mkd_all] <;> rfl⟩

theorem markLevelS (ty : TypeId) (l : List TLevel) (k : Int) (h0 : 0 ≤ k) (hb : k + ((ctL TLevel.ct l : Nat) : Int) ≤ 4611686018427387904) : ACalls Tryz.prog 32 [.own 0 0, I k] [some ⟨ty, 3, 0, false, l.map TLevel.en⟩] (fun r M => r = I (k + ((ctL TLevel.ct l : Nat) : Int)) ∧ ∃ Mx, M = [(⟨ty, 3, 0, false, (mkL TLevel.mrk TLevel.ct k l).map TLevel.en⟩ : Blk)].map some ++ Mx) := by
 have hll := len_ctL TLevel.ct_pos l
 refine ACalls.body Tryz.func32 rfl 32 rfl (fun E hE => ?_)
 simp only [List.reduceReplicate, List.cons_append, List.nil_append]
 repeat' ((first
  | (refine iAL ?_; first | refine AL.any ?_ | refine AL.nil ?_)
  | (refine iAW ?_; first | (refine AW.c0 ?_; constructor) | (refine AW.loopE (fun i : Nat => [.own 0 0, I (k + ((ctL TLevel.ct (l.take i) : Nat) : Int)), .any, .any, .any, I (i : Int), .any, .any, .any, .any, .any, .any, .any, .any, .any, .any, .any, .any, .any, .any, .any, .any, .any, .any, .any, .any, .any, .any, .any, .any, .any, .any, .any, .any]) (fun i => [some ⟨ty, 3, 0, false, (mkd TLevel.mrk TLevel.ct k l i).map TLevel.en⟩]) (fun i => by rw [hE]; exact Nat.le_refl _) (fun i => l.length - i) (fun i => i ≤ l.length) 0 (Nat.zero_le _) ?_ (by rw [mkd_zero] <;> rfl) ?_))) <;> (try dsimp only))
 · (refine wkj ?_; repeat' with_reducible constructor) <;> first | rfl | (simp [ctL])
 · intro i hi
   by_cases hlt : i < l.length
   · obtain ⟨x, hx⟩ : ∃ x, l[i]? = some x := ⟨_, List.getElem?_eq_getElem hlt⟩
     have hn := next_ix hlt (by omega)
     obtain ⟨K, hK⟩ : ∃ K, K = k + ((ctL TLevel.ct (l.take i) : Nat) : Int) := ⟨_, rfl⟩
     rw [← hK]
     have hct := ctL_le (ct := TLevel.ct) hx
     have hcs := ctL_take (ct := TLevel.ct) hx
     have hcx : TLevel.ct x = 3 := rfl
     have hw0 : IntKind.i64.wrap (K + 1) = K + 1 := w64 (by omega) (by omega)
     have hw1 : IntKind.i64.wrap (K + 1 + 1) = K + 1 + 1 := w64 (by omega) (by omega)
     have hw2 : IntKind.i64.wrap (K + 1 + 1 + 1) = K + 1 + 1 + 1 := w64 (by omega) (by omega)
     have hend : K + 1 + 1 + 1 = k + ((ctL TLevel.ct (l.take (i + 1)) : Nat) : Int) := by omega
     have hms : (mkd TLevel.mrk TLevel.ct k l (i + 1)).map TLevel.en = ((mkd TLevel.mrk TLevel.ct k l i).map TLevel.en).set ((i : Int)).toNat (TLevel.en (TLevel.mrk K x)) := by rw [mkd_succ hx, List.map_set, toNat_ix, hK]
     obtain ⟨A, hA⟩ : ∃ A, A = (mkd TLevel.mrk TLevel.ct k l i).map TLevel.en := ⟨_, rfl⟩
     rw [← hA] at hms
     have hAl : A.length = l.length := by rw [hA, List.length_map, mkd_len hi]
     have hix : ((i : Int)).toNat < A.length := by rw [toNat_ix]; omega
     have hself : A.set ((i : Int)).toNat (TLevel.en x) = A := by
      rw [toNat_ix]
      exact set_self_of (by rw [hA, List.getElem?_map, mkd_get hx]; rfl)
     have htA : ∀ r : List AV, decide ((i : Int) < ((A.set ((i : Int)).toNat r).length : Int)) = true := fun r => by rw [List.length_set]; simp; omega
     rw [← hA, ← hself]
     dsimp only [TLevel.en]
     repeat' ((first
      | (refine iAL ?_; first | refine AL.any ?_ | refine AL.nil ?_)
      | (refine iAW ?_; first | (rw [hw0]) | (rw [hw1]) | (rw [hw2]) | (refine AW.c0 ?_; constructor) | (refine AW.cT ?_ (hb := htA _)) | (refine AW.cF ?_ (hb := htA _)) | refine AW.cT ?_ | refine AW.cF ?_ | (refine AW.c2 ?_ ?_ <;> (intro h; try simp only [bT, bF] at h)))
      | with_reducible refine ifP ?_
      | with_reducible refine ifN ?_) <;> (try dsimp only))
     all_goals (refine ⟨i + 1, [], hlt, by omega, ?_, ?_, ?_, ?_⟩; (focus ((refine wkj ?_; repeat' with_reducible constructor) <;> first | rfl | (rw [hend]) | (rw [hn]))); (focus (rw [hms] <;> rfl)); (focus ((repeat' (first | exact Fits.nil _ | refine Fits.cons ?_ ?_ | exact Fits.any _ | exact Fits.c _ _ | exact Fits.own (by rfl) | exact Fits.ref (by rfl) | exact Fits.clo (by assumption) | exact Fits.clo (clo_of (by rfl)) | exact Fits.clo (clo_fn _))))); (focus (exact fits_dcl (DCl.map (fun _ => rfl)))))
   · have e : i = l.length := by omega
     subst e
     have hml : (mkd TLevel.mrk TLevel.ct k l l.length).length = l.length := mkd_len (Nat.le_refl _)
     have ht : decide ((l.length : Int) < ((((mkd TLevel.mrk TLevel.ct k l l.length).map TLevel.en).length : Nat) : Int)) = false := by rw [List.length_map, hml]; simp
     rw [List.take_length]
     repeat' ((first
      | (refine iAL ?_; first | refine AL.any ?_ | refine AL.nil ?_)
      | (refine iAW ?_; first | (refine AW.c0 ?_; constructor) | (refine AW.cT ?_ (hb := ht)) | (refine AW.cF ?_ (hb := ht)) | refine AW.cT ?_ | refine AW.cF ?_ | (refine AW.c2 ?_ ?_ <;> (intro h; try simp only [bT, bF] at h)))
      | with_reducible refine ifP ?_
      | with_reducible refine ifN ?_) <;> (try dsimp only))
     all_goals exact FinA.one rfl (RV.tmp (by rfl)) ⟨rfl, [], by rw [mkd_all] <;> rfl⟩

theorem markEditionS (ty : TypeId) (l : List TEdition) (k : Int) (h0 : 0 ≤ k) (hb : k + ((ctL TEdition.ct l : Nat) : Int) ≤ 4611686018427387904) : ACalls Tryz.prog 99 [.own 0 0, I k] [some ⟨ty, 3, 0, false, l.map TEdition.ed⟩] (fun r M => r = I (k + ((ctL TEdition.ct l : Nat) : Int)) ∧ ∃ Mx, M = [(⟨ty, 3, 0, false, (mkL TEdition.mrk TEdition.ct k l).map TEdition.ed⟩ : Blk)].map some ++ Mx) := by
 have hll := len_ctL TEdition.ct_pos l
 refine ACalls.body Tryz.func99 rfl 32 rfl (fun E hE => ?_)
 simp only [List.reduceReplicate, List.cons_append, List.nil_append]
 repeat' ((first
  | (refine iAL ?_; first | refine AL.any ?_ | refine AL.nil ?_)
  | (refine iAW ?_; first | (refine AW.c0 ?_; constructor) | (refine AW.loopE (fun i : Nat => [.own 0 0, I (k + ((ctL TEdition.ct (l.take i) : Nat) : Int)), .any, .any, .any, I (i : Int), .any, .any, .any, .any, .any, .any, .any, .any, .any, .any, .any, .any, .any, .any, .any, .any, .any, .any, .any, .any, .any, .any, .any, .any, .any, .any, .any, .any]) (fun i => [some ⟨ty, 3, 0, false, (mkd TEdition.mrk TEdition.ct k l i).map TEdition.ed⟩]) (fun i => by rw [hE]; exact Nat.le_refl _) (fun i => l.length - i) (fun i => i ≤ l.length) 0 (Nat.zero_le _) ?_ (by rw [mkd_zero] <;> rfl) ?_))) <;> (try dsimp only))
 · (refine wkj ?_; repeat' with_reducible constructor) <;> first | rfl | (simp [ctL])
 · intro i hi
   by_cases hlt : i < l.length
   · obtain ⟨x, hx⟩ : ∃ x, l[i]? = some x := ⟨_, List.getElem?_eq_getElem hlt⟩
     have hn := next_ix hlt (by omega)
     obtain ⟨K, hK⟩ : ∃ K, K = k + ((ctL TEdition.ct (l.take i) : Nat) : Int) := ⟨_, rfl⟩
     rw [← hK]
     have hct := ctL_le (ct := TEdition.ct) hx
     have hcs := ctL_take (ct := TEdition.ct) hx
     have hcx : TEdition.ct x = 2 + ctL TFeature.ct x.source := rfl
     have hw0 : IntKind.i64.wrap (K + 1) = K + 1 := w64 (by omega) (by omega)
     have hw1 : IntKind.i64.wrap (K + 1 + ((ctL TFeature.ct x.source : Nat) : Int) + 1) = K + 1 + ((ctL TFeature.ct x.source : Nat) : Int) + 1 := w64 (by omega) (by omega)
     have hend : K + 1 + ((ctL TFeature.ct x.source : Nat) : Int) + 1 = k + ((ctL TEdition.ct (l.take (i + 1)) : Nat) : Int) := by omega
     have hms : (mkd TEdition.mrk TEdition.ct k l (i + 1)).map TEdition.ed = ((mkd TEdition.mrk TEdition.ct k l i).map TEdition.ed).set ((i : Int)).toNat (TEdition.ed (TEdition.mrk K x)) := by rw [mkd_succ hx, List.map_set, toNat_ix, hK]
     obtain ⟨A, hA⟩ : ∃ A, A = (mkd TEdition.mrk TEdition.ct k l i).map TEdition.ed := ⟨_, rfl⟩
     rw [← hA] at hms
     have hAl : A.length = l.length := by rw [hA, List.length_map, mkd_len hi]
     have hix : ((i : Int)).toNat < A.length := by rw [toNat_ix]; omega
     have hself : A.set ((i : Int)).toNat (TEdition.ed x) = A := by
      rw [toNat_ix]
      exact set_self_of (by rw [hA, List.getElem?_map, mkd_get hx]; rfl)
     have htA : ∀ r : List AV, decide ((i : Int) < ((A.set ((i : Int)).toNat r).length : Int)) = true := fun r => by rw [List.length_set]; simp; omega
     rw [← hA, ← hself]
     dsimp only [TEdition.ed]
     refine AW.ghE (GhE.exposeS (q := 0) (i := ((i : Int)).toNat) (j := 1) rfl hix rfl TFeature.dpr) (fun ty1 => ?_)
     dsimp only [List.set, List.length, List.cons_append, List.nil_append, List.append, Nat.zero_add, Nat.reduceAdd]
     repeat' ((first
      | (refine iAL ?_; first | refine AL.any (h := POp.gh (POp.H [1] Tryz.func31 (hc := markFeatureS ty1 x.source (K + 1) (by omega) (by omega))) (Gh.absorbS (q := 0) (id := 1) (j := 1) rfl (by assumption) rfl rfl rfl rfl rfl (DCl.map (fun _ => rfl)) TFeature.und)) ?_ | refine AL.any ?_ | refine AL.nil ?_)
      | (refine iAW ?_; first | (rw [hw0]) | (rw [hw1]) | (refine AW.c0 ?_; constructor) | (refine AW.cT ?_ (hb := htA _)) | (refine AW.cF ?_ (hb := htA _)) | refine AW.cT ?_ | refine AW.cF ?_ | (refine AW.c2 ?_ ?_ <;> (intro h; try simp only [bT, bF] at h)))
      | with_reducible refine ifP ?_
      | with_reducible refine ifN ?_) <;> (try dsimp only))
     all_goals (refine ⟨i + 1, [none], hlt, by omega, ?_, ?_, ?_, ?_⟩; (focus ((refine wkj ?_; repeat' with_reducible constructor) <;> first | rfl | (rw [hend]) | (rw [hn]))); (focus (rw [hms] <;> rfl)); (focus ((repeat' (first | exact Fits.nil _ | refine Fits.cons ?_ ?_ | exact Fits.any _ | exact Fits.c _ _ | exact Fits.own (by rfl) | exact Fits.ref (by rfl) | exact Fits.clo (by assumption) | exact Fits.clo (clo_of (by rfl)) | exact Fits.clo (clo_fn _))))); (focus (exact fits_dcl (DCl.map (fun _ => rfl)))))
   · have e : i = l.length := by omega
     subst e
     have hml : (mkd TEdition.mrk TEdition.ct k l l.length).length = l.length := mkd_len (Nat.le_refl _)
     have ht : decide ((l.length : Int) < ((((mkd TEdition.mrk TEdition.ct k l l.length).map TEdition.ed).length : Nat) : Int)) = false := by rw [List.length_map, hml]; simp
     rw [List.take_length]
     repeat' ((first
      | (refine iAL ?_; first | refine AL.any ?_ | refine AL.nil ?_)
      | (refine iAW ?_; first | (refine AW.c0 ?_; constructor) | (refine AW.cT ?_ (hb := ht)) | (refine AW.cF ?_ (hb := ht)) | refine AW.cT ?_ | refine AW.cF ?_ | (refine AW.c2 ?_ ?_ <;> (intro h; try simp only [bT, bF] at h)))
      | with_reducible refine ifP ?_
      | with_reducible refine ifN ?_) <;> (try dsimp only))
     all_goals exact FinA.one rfl (RV.tmp (by rfl)) ⟨rfl, [], by rw [mkd_all] <;> rfl⟩

theorem ctL_pt (l : List TPoint) : ctL TPoint.ct l ≤ l.length * 2 := ctL_bd fun _ _ => Nat.le_refl 2
theorem ctL_ft {l : List TFeature} (hl : l.length ≤ 1048576) (hp : ∀ x ∈ l, x.points.length ≤ 1048576) : ctL TFeature.ct l ≤ 2199027449856 := by
 have h := ctL_bd (ct := TFeature.ct) (c := 2097156) (l := l) fun x hx => by
  have h1 := ctL_pt x.points
  have h2 := hp x hx
  unfold TFeature.ct
  omega
 omega

theorem clonePoint (l : List TPoint) (hl : l.length ≤ 1048576) : VCalls Tryz.prog 178 [.ro 2 (l.map TPoint.en)] (fun r M => r = .own 0 0 ∧ M = [some ⟨141, 2, 0, false, l.map TPoint.en⟩]) := by
 refine VB Tryz.func178 7 (fun E hE => ?_)
 have hclo : Clo (.ro 2 (l.map TPoint.en)) := clo_list TPoint.clo_en
 repeat' ((first
  | (refine iAL ?_; first | refine AL.any ?_ | refine AL.nil ?_)
  | (refine iAW ?_; first | (refine AW.adoptRet (t := 2) 141 2 rfl Adopt.nil ?_) | (refine AW.c0 ?_; constructor) | (refine AW.c2 ?_ ?_ <;> (intro h; try simp only [bT, bF] at h)))
  | ((refine AL.isnil (by rfl) (by rfl) (TT_ok.sl _ _ (by rfl)) (by rfl) (fun bn hbn => ?_)); dsimp only [sh0_own, sh0_c, sh1_own, sh1_c, sh1_agg, shA_own, shA_c, shA_agg, shA_tup, dput, List.set, cond_true, cond_false, Nat.zero_add, Nat.add_zero, Nat.reduceAdd, splice, List.take, List.drop, List.length, List.nil_append, List.cons_append, List.append, TPoint.en, TSegment.en, TBox.en, TFeature.en, TMeet.en, TPlace.en, TCover.en, TLabel.en, TPiece.en, TLevel.en, TChart.en, TReason.en, TEdit.en, TEntry.en, TEdition.en, TListing.en, TAtlas.en, TEvent.en, TWindow.en])) <;> (try dsimp only))
 all_goals exact Fin.r1 [0] rfl (RV.tmp (by rfl)) ⟨rfl, by first | rfl | (rw [hbn (by assumption)] <;> rfl)⟩

theorem cloneF (x : TFeature) (hs : x.sm) : VCalls Tryz.prog 118 [.agg x.en] (fun r M => r = .agg x.eo ∧ M = x.rw) := by
 refine VB Tryz.func118 7 (fun E hE => ?_)
 have hclo0 : Clo (.ro 2 (x.points.map TPoint.en)) := clo_list TPoint.clo_en
 have hcle : Clo (.agg x.en) := Clo.agg x.clo_en
 have hsl : x.points.length ≤ 1048576 := hs
 dsimp only [TFeature.en]
 repeat' ((first
  | (refine iAL ?_; first | refine AL.any ?_ | refine AL.any (h := POp.O Tryz.func178 (hc := clonePoint _ (by assumption))) ?_ | refine AL.nil ?_)
  | (refine iAW ?_; (refine AW.c0 ?_; constructor))) <;> (try dsimp only))
 all_goals exact Fin.r1 [2] rfl (RV.cell (QOp.quietA TT_ok (by rfl))) ⟨rfl, rfl⟩

theorem cloneF_s (x : TFeature) (hs : x.sm) : VCalls Tryz.prog 108 [.agg x.en] (fun r M => r = .agg x.eo ∧ M = x.rw) := by
 refine VB Tryz.func108 8 (fun E hE => ?_)
 have hclo0 : Clo (.ro 2 (x.points.map TPoint.en)) := clo_list TPoint.clo_en
 have hcle : Clo (.agg x.en) := Clo.agg x.clo_en
 have hsl : x.points.length ≤ 1048576 := hs
 dsimp only [TFeature.en]
 repeat' ((first
  | (refine iAL ?_; first | refine AL.any ?_ | refine AL.nil ?_)
  | (refine iAW ?_; (refine AW.c0 ?_; constructor))) <;> (try dsimp only))
 all_goals exact Fin.r1 [2] rfl (RV.cell (QOp.quietA TT_ok (by rfl))) ⟨rfl, rfl⟩

theorem cloneF_s' (x : TFeature) (hs : x.sm) : VCalls Tryz.prog 108 [.agg x.en] (fun r M => r = .agg x.en ∧ M = []) := VCalls.frz (cloneF_s x hs) (by repeat' (first | exact VwL.nil | refine VwL.cons ?_ ?_ | (refine View.own (by rfl) (by rfl) (by rfl) (by rfl) ?_ ?_ <;> first | exact DCl.b rfl | exact DCl.map (fun _ => rfl) | assumption | rfl | exact TPoint.und | exact TSegment.und | exact TBox.und | exact TFeature.und | exact TMeet.und | exact TPlace.und | exact TCover.und | exact TLabel.und | exact TPiece.und | exact TLevel.und | exact TChart.und | exact TReason.und | exact TEdit.und | exact TEntry.und | exact TEdition.und | exact TListing.und | exact TAtlas.und | exact TEvent.und | exact TWindow.und | exact und_nil | exact und_I | assumption) | refine View.agg' ?_ | exact View.same (by first | exact clo_of (by rfl) | assumption | exact clo_fn _) | exact View.nil))
theorem crnA_s (l : List TPoint) (i : Nat) (hl : l.length ≤ 1048576) : VCalls Tryz.prog 303 [.ro 2 (l.map TPoint.en), I (i : Int)] (fun r M => r = I (crnA l i) ∧ M = []) := by
 refine VB Tryz.func303 34 (fun E hE => ?_)
 have hclo : Clo (.ro 2 (l.map TPoint.en)) := clo_list TPoint.clo_en
 have hq : (isLine l = false ∧ crnA l i = -1) ∨ (isLine l = true ∧ inP l i = false ∧ crnA l i = -1) ∨ (isLine l = true ∧ inP l i = true) := by
  cases h1 : isLine l
  · exact .inl ⟨rfl, crnA_n (.inl h1)⟩
  · cases h2 : inP l i
    · exact .inr (.inl ⟨rfl, rfl, crnA_n (.inr h2)⟩)
    · exact .inr (.inr ⟨rfl, rfl⟩)
 rcases hq with ⟨h1, hca⟩ | ⟨h1, h2, hca⟩ | ⟨h1, h2⟩
 case' inr.inr => obtain ⟨a, b, p, hca, hz1, hga, hgb, hz2, hgp⟩ := corner_line hl h1 h2
 repeat' ((first
  | (refine iAL ?_; first | refine AL.any ?_ | refine AL.any (h := POp.k Tryz.func222 (hc := max_s _ _)) ?_ | refine AL.any (h := POp.k Tryz.func238 (hc := isLine_s _ (by assumption))) ?_ | refine AL.any (h := POp.k Tryz.func294 (hc := crs_s a b p)) ?_ | refine AL.F ?_ | refine AL.T ?_ | refine AL.T (h := POp.k Tryz.func96 (hc := inr_s _ _ _)) ?_ | refine AL.nil ?_)
  | ((with_reducible show DL ..); first | refine DL.any ?_ | refine DL.nil ?_)
  | (refine iAW ?_; first | (refine AW.c0 ?_; constructor) | refine AW.dr (id := 3) 14 ?_ | refine AW.cT ?_ | refine AW.cF ?_)) <;> (try dsimp only))
 all_goals exact Fin.one rfl (RV.tmp (by rfl)) (clo_c _) ⟨by rw [hca] <;> first | rfl | (unfold triA wmax; rfl), rfl⟩

theorem crnS_s (l : List TPoint) (i : Nat) (hl : l.length ≤ 1048576) : VCalls Tryz.prog 304 [.ro 2 (l.map TPoint.en), I (i : Int)] (fun r M => r = I (crnS l i) ∧ M = []) := by
 refine VB Tryz.func304 43 (fun E hE => ?_)
 have hclo : Clo (.ro 2 (l.map TPoint.en)) := clo_list TPoint.clo_en
 have hq : (isRing l = false ∧ crnS l i = -1) ∨ (isRing l = true ∧ inC l i = false ∧ crnS l i = -1) ∨ (isRing l = true ∧ inC l i = true) := by
  cases h1 : isRing l
  · exact .inl ⟨rfl, crnS_n (.inl h1)⟩
  · cases h2 : inC l i
    · exact .inr (.inl ⟨rfl, rfl, crnS_n (.inr h2)⟩)
    · exact .inr (.inr ⟨rfl, rfl⟩)
 rcases hq with ⟨h1, hca⟩ | ⟨h1, h2, hca⟩ | ⟨h1, h2⟩
 case' inr.inr => obtain ⟨a, b, p, hca, hz0, hz1, hga, hgb, hz2, hgp⟩ := corner_ring hl h1 h2
 repeat' ((first
  | (refine iAL ?_; first | refine AL.any ?_ | refine AL.any (h := POp.k Tryz.func172 (hc := isRing_s _ (by assumption))) ?_ | refine AL.any (h := POp.k Tryz.func222 (hc := max_s _ _)) ?_ | refine AL.any (h := POp.k Tryz.func294 (hc := crs_s a b p)) ?_ | refine AL.F ?_ | refine AL.T ?_ | refine AL.T (h := POp.k Tryz.func96 (hc := inr_s _ _ _)) ?_ | refine AL.nil ?_)
  | ((with_reducible show DL ..); first | refine DL.any ?_ | refine DL.nil ?_)
  | (refine iAW ?_; first | (refine AW.c0 ?_; constructor) | refine AW.dr (id := 3) 23 ?_ | refine AW.cT ?_ | refine AW.cF ?_)) <;> (try dsimp only))
 all_goals exact Fin.one rfl (RV.tmp (by rfl)) (clo_c _) ⟨by rw [hca] <;> first | rfl | (unfold triA wmax; rfl), rfl⟩

theorem same_s (l m : List TPoint) (hl : l.length ≤ 1048576) (hm : m.length ≤ 1048576) : VCalls Tryz.prog 326 [.ro 2 (l.map TPoint.en), .ro 2 (m.map TPoint.en)] (fun r M => r = B (sameT l m) ∧ M = []) := by
 refine VB Tryz.func326 23 (fun E hE => ?_)
 have hclo : Clo (.ro 2 (l.map TPoint.en)) := clo_list TPoint.clo_en
 have hclm : Clo (.ro 2 (m.map TPoint.en)) := clo_list TPoint.clo_en
 rcases Bool.eq_false_or_eq_true (decide (twice l > 0)) with h1 | h1 <;> rcases Bool.eq_false_or_eq_true (decide (twice m > 0)) with h2 | h2 <;> rcases Bool.eq_false_or_eq_true (decide (twice l < 0)) with h3 | h3
 repeat' ((first
  | (refine iAL ?_; first | refine AL.any ?_ | refine AL.any (h := POp.k Tryz.func336 (hc := twice_s _ (by assumption))) ?_ | refine AL.U ?_ | refine AL.F ?_ | refine AL.T ?_ | refine AL.nil ?_)
  | (refine iAW ?_; (refine AW.c0 ?_; constructor))) <;> (try dsimp only))
 all_goals exact Fin.one rfl (RV.tmp (by rfl)) (clo_c _) ⟨by unfold sameT; simp only [*, Bool.true_or, Bool.false_or, Bool.true_and, Bool.false_and, Bool.or_false, Bool.and_false, Bool.and_true, Bool.or_true], rfl⟩

theorem triA_i (a b p : TPoint) : VCalls Tryz.prog 327 [.agg a.en, .agg b.en, .agg p.en] (fun r M => r = I (triA a b p) ∧ M = []) := by
 refine VB Tryz.func327 13 (fun E hE => ?_)
 dsimp only [TPoint.en]
 repeat' ((first
  | (refine iAL ?_; first | refine AL.any ?_ | refine AL.any (h := POp.k Tryz.func298 (hc := crs_i a b p)) ?_ | refine AL.nil ?_)
  | (refine iAW ?_; (refine AW.c0 ?_; constructor))) <;> (try dsimp only))
 all_goals exact Fin.one rfl (RV.tmp (by rfl)) (clo_c _) ⟨by first | rfl | (simp only [triA, wmax]; split <;> simp_all <;> omega), rfl⟩

theorem crnA_i (l : List TPoint) (i : Nat) (hl : l.length ≤ 1048576) : VCalls Tryz.prog 307 [.ro 2 (l.map TPoint.en), I (i : Int)] (fun r M => r = I (crnA l i) ∧ M = []) := by
 refine VB Tryz.func307 29 (fun E hE => ?_)
 have hclo : Clo (.ro 2 (l.map TPoint.en)) := clo_list TPoint.clo_en
 have hq : (isLine l = false ∧ crnA l i = -1) ∨ (isLine l = true ∧ inP l i = false ∧ crnA l i = -1) ∨ (isLine l = true ∧ inP l i = true) := by
  cases h1 : isLine l
  · exact .inl ⟨rfl, crnA_n (.inl h1)⟩
  · cases h2 : inP l i
    · exact .inr (.inl ⟨rfl, rfl, crnA_n (.inr h2)⟩)
    · exact .inr (.inr ⟨rfl, rfl⟩)
 rcases hq with ⟨h1, hca⟩ | ⟨h1, h2, hca⟩ | ⟨h1, h2⟩
 case' inr.inr => obtain ⟨a, b, p, hca, hz1, hga, hgb, hz2, hgp⟩ := corner_line hl h1 h2
 repeat' ((first
  | (refine iAL ?_; first | refine AL.any ?_ | refine AL.any (h := POp.k Tryz.func245 (hc := isLine_i _ (by assumption))) ?_ | refine AL.any (h := POp.k Tryz.func327 (hc := triA_i a b p)) ?_ | refine AL.F ?_ | refine AL.T ?_ | refine AL.T (h := POp.k Tryz.func145 (hc := inr_v _ _ _)) ?_ | refine AL.nil ?_)
  | ((with_reducible show DL ..); first | refine DL.any ?_ | refine DL.nil ?_)
  | (refine iAW ?_; first | (refine AW.c0 ?_; constructor) | refine AW.dr (id := 3) 14 ?_ | refine AW.cT ?_ | refine AW.cF ?_)) <;> (try dsimp only))
 all_goals exact Fin.one rfl (RV.tmp (by rfl)) (clo_c _) ⟨by rw [hca] <;> first | rfl | (unfold triA wmax; rfl), rfl⟩

theorem crnS_i (l : List TPoint) (i : Nat) (hl : l.length ≤ 1048576) : VCalls Tryz.prog 308 [.ro 2 (l.map TPoint.en), I (i : Int)] (fun r M => r = I (crnS l i) ∧ M = []) := by
 refine VB Tryz.func308 38 (fun E hE => ?_)
 have hclo : Clo (.ro 2 (l.map TPoint.en)) := clo_list TPoint.clo_en
 have hq : (isRing l = false ∧ crnS l i = -1) ∨ (isRing l = true ∧ inC l i = false ∧ crnS l i = -1) ∨ (isRing l = true ∧ inC l i = true) := by
  cases h1 : isRing l
  · exact .inl ⟨rfl, crnS_n (.inl h1)⟩
  · cases h2 : inC l i
    · exact .inr (.inl ⟨rfl, rfl, crnS_n (.inr h2)⟩)
    · exact .inr (.inr ⟨rfl, rfl⟩)
 rcases hq with ⟨h1, hca⟩ | ⟨h1, h2, hca⟩ | ⟨h1, h2⟩
 case' inr.inr => obtain ⟨a, b, p, hca, hz0, hz1, hga, hgb, hz2, hgp⟩ := corner_ring hl h1 h2
 repeat' ((first
  | (refine iAL ?_; first | refine AL.any ?_ | refine AL.any (h := POp.k Tryz.func182 (hc := isRing_i _ (by assumption))) ?_ | refine AL.any (h := POp.k Tryz.func327 (hc := triA_i a b p)) ?_ | refine AL.F ?_ | refine AL.T ?_ | refine AL.T (h := POp.k Tryz.func145 (hc := inr_v _ _ _)) ?_ | refine AL.nil ?_)
  | ((with_reducible show DL ..); first | refine DL.any ?_ | refine DL.nil ?_)
  | (refine iAW ?_; first | (refine AW.c0 ?_; constructor) | refine AW.dr (id := 4) 20 ?_ | refine AW.cT ?_ | refine AW.cF ?_)) <;> (try dsimp only))
 all_goals exact Fin.one rfl (RV.tmp (by rfl)) (clo_c _) ⟨by rw [hca] <;> first | rfl | (unfold triA wmax; rfl), rfl⟩

theorem dp_s (l : List TPoint) (i : Nat) (hl : l.length ≤ 1048576) : VCalls Tryz.prog 305 [.ro 2 (l.map TPoint.en), I (i : Int)] (fun r M => r = .tup [.ro 2 ((dpL l i).map TPoint.en), B (dpOk l i)] ∧ M = []) := by
 refine VB Tryz.func305 36 (fun E hE => ?_)
 have hclo : Clo (.ro 2 (l.map TPoint.en)) := clo_list TPoint.clo_en
 rcases dp_cases l i with ⟨h1, hpk, hpl⟩ | ⟨h1, h2, hpk, hpl⟩ | ⟨h1, h2, h3, hpk, hpl⟩ | ⟨h1, h2, h3, hpk, hpl⟩
 case' inr.inr.inl =>
  have hil : i < l.length := by have := inP_t hl h2; omega
  obtain ⟨c1, c2, c3, c4, c5⟩ := drp_cut hil hl
  have hd := drp_len hil
  have hl2 : (drp l i).length ≤ 1048576 := by omega
  have hdm := drp_map l i
  have hclD : Clo (.ro 2 ((drp l i).map TPoint.en)) := clo_list TPoint.clo_en
  have hcr : ∀ r ∈ (l.take i).map TPoint.en ++ (l.drop (i + 1)).map TPoint.en, ∀ y ∈ r, Clo y := hdm ▸ clo_rows TPoint.clo_en
 case' inr.inr.inr =>
  have hil : i < l.length := by have := inP_t hl h2; omega
  obtain ⟨c1, c2, c3, c4, c5⟩ := drp_cut hil hl
  have hd := drp_len hil
  have hl2 : (drp l i).length ≤ 1048576 := by omega
  have hdm := drp_map l i
  have hclD : Clo (.ro 2 ((drp l i).map TPoint.en)) := clo_list TPoint.clo_en
  have hcr : ∀ r ∈ (l.take i).map TPoint.en ++ (l.drop (i + 1)).map TPoint.en, ∀ y ∈ r, Clo y := hdm ▸ clo_rows TPoint.clo_en
 repeat' ((first
  | (refine iAL ?_; first | refine AL.any ?_ | refine AL.any (h := POp.k Tryz.func238 (hc := isLine_s _ (by assumption))) ?_ | refine AL.F ?_ | refine AL.T ?_ | refine AL.T (h := POp.k Tryz.func96 (hc := inr_s _ _ _)) ?_ | refine AL.nil ?_)
  | ((with_reducible show DLR ..); first | refine DLR.any ?_ | refine DLR.row rfl (fun Y => RowRun.empty (by rfl) (by rfl) (by first | exact rwk22 | exact rwk23 | exact rwk24 | exact rwk31 | exact rwk32 | exact rwk33 | exact rwk79)) rfl rfl ?_ | refine DLR.append rfl (by rfl) (by first | exact rwk22 | exact rwk23 | exact rwk24 | exact rwk31 | exact rwk32 | exact rwk33 | exact rwk79) (by rfl) rfl rfl rfl rfl rfl rfl (by rfl) (by first | (simp <;> omega) | omega) (by first | (simp [maxLen] <;> omega) | (simp_all [maxLen] <;> omega)) ?_ | refine DLR.nil ?_)
  | (refine iAW ?_; first | (rw [hdm]) | (refine AW.freeze /-Ret-/ (t := 6) (id := 0) rfl rfl rfl rfl (clo_rows TPoint.clo_en) ?_; try dsimp only [dput, List.set, cond_true, cond_false, Nat.zero_add, Nat.add_zero, Nat.reduceAdd, splice, List.take, List.drop, List.length, List.nil_append, List.cons_append, List.append, TPoint.en, TSegment.en, TBox.en, TFeature.en, TMeet.en, TPlace.en, TCover.en, TLabel.en, TPiece.en, TLevel.en, TChart.en, TReason.en, TEdit.en, TEntry.en, TEdition.en, TListing.en, TAtlas.en, TEvent.en, TWindow.en]) | (refine AW.freezeRet (t := 4) (id := 0) rfl rfl rfl rfl (clo_rows TPoint.clo_en) ?_; (try simp only [List.take_length]); try dsimp only [dput, List.set, cond_true, cond_false, Nat.zero_add, Nat.add_zero, Nat.reduceAdd, splice, List.take, List.drop, List.length, List.nil_append, List.cons_append, List.append, TPoint.en, TSegment.en, TBox.en, TFeature.en, TMeet.en, TPlace.en, TCover.en, TLabel.en, TPiece.en, TLevel.en, TChart.en, TReason.en, TEdit.en, TEntry.en, TEdition.en, TListing.en, TAtlas.en, TEvent.en, TWindow.en]) | (refine AW.freezeRet (t := 4) (id := 1) rfl rfl rfl rfl (clo_rows TPoint.clo_en) ?_; (try simp only [List.take_length]); try dsimp only [dput, List.set, cond_true, cond_false, Nat.zero_add, Nat.add_zero, Nat.reduceAdd, splice, List.take, List.drop, List.length, List.nil_append, List.cons_append, List.append, TPoint.en, TSegment.en, TBox.en, TFeature.en, TMeet.en, TPlace.en, TCover.en, TLabel.en, TPiece.en, TLevel.en, TChart.en, TReason.en, TEdit.en, TEntry.en, TEdition.en, TListing.en, TAtlas.en, TEvent.en, TWindow.en]) | (refine AW.c0 ?_; constructor) | refine AW.drawnR (id := 3) 9 1 [some 0, none, none, none, some 0, none, none, none, none] [some Rsv] rfl (by kernel_rfl) (by kernel_rfl) (by kernel_rfl) (by rfl) ?_ | refine AW.cT ?_ | refine AW.cF ?_)
  | ((with_reducible show DLR ..); first | refine DLR.any (h := fun Y => POp.quiet (QOp.cut_h (by rfl) slk79 (by rfl) (by rfl) (by first | decide | omega) (by first | assumption | omega) (by assumption))) ?_ | refine DLR.any (h := fun Y => POp.quiet (QOp.cut_l (by rfl) slk79 (by rfl) (by rfl) (by first | decide | omega) (by first | assumption | omega) (by assumption))) ?_)) <;> (try dsimp only))
 all_goals exact Fin.two rfl (RV.tmp (by rfl)) (RV.tmp (by rfl)) (Clo.tup (clo_cons (clo_list TPoint.clo_en) (clo_cons (clo_c _) clo_nil))) ⟨by rw [hpl, hpk], rfl⟩

theorem dc_s (l : List TPoint) (i : Nat) (hl : l.length ≤ 1048576) : VCalls Tryz.prog 306 [.ro 2 (l.map TPoint.en), I (i : Int)] (fun r M => r = .tup [.ro 2 ((dcL l i).map TPoint.en), B (dcOk l i)] ∧ M = []) := by
 refine VB Tryz.func306 42 (fun E hE => ?_)
 have hclo : Clo (.ro 2 (l.map TPoint.en)) := clo_list TPoint.clo_en
 rcases dc_cases l i with ⟨h1, hpk, hpl⟩ | ⟨h1, h2, hpk, hpl⟩ | ⟨h1, h2, h3, hpk, hpl⟩ | ⟨h1, h2, h3, h4, hpk, hpl⟩ | ⟨h1, h2, h3, h4, hpk, hpl⟩
 case' inr.inr.inl =>
  have hil : i < l.length := inC_t hl h2
  obtain ⟨c1, c2, c3, c4, c5⟩ := drp_cut hil hl
  have hd := drp_len hil
  have hl2 : (drp l i).length ≤ 1048576 := by omega
  have hdm := drp_map l i
  have hclD : Clo (.ro 2 ((drp l i).map TPoint.en)) := clo_list TPoint.clo_en
  have hcr : ∀ r ∈ (l.take i).map TPoint.en ++ (l.drop (i + 1)).map TPoint.en, ∀ y ∈ r, Clo y := hdm ▸ clo_rows TPoint.clo_en
 case' inr.inr.inr.inl =>
  have hil : i < l.length := inC_t hl h2
  obtain ⟨c1, c2, c3, c4, c5⟩ := drp_cut hil hl
  have hd := drp_len hil
  have hl2 : (drp l i).length ≤ 1048576 := by omega
  have hdm := drp_map l i
  have hclD : Clo (.ro 2 ((drp l i).map TPoint.en)) := clo_list TPoint.clo_en
  have hcr : ∀ r ∈ (l.take i).map TPoint.en ++ (l.drop (i + 1)).map TPoint.en, ∀ y ∈ r, Clo y := hdm ▸ clo_rows TPoint.clo_en
 case' inr.inr.inr.inr =>
  have hil : i < l.length := inC_t hl h2
  obtain ⟨c1, c2, c3, c4, c5⟩ := drp_cut hil hl
  have hd := drp_len hil
  have hl2 : (drp l i).length ≤ 1048576 := by omega
  have hdm := drp_map l i
  have hclD : Clo (.ro 2 ((drp l i).map TPoint.en)) := clo_list TPoint.clo_en
  have hcr : ∀ r ∈ (l.take i).map TPoint.en ++ (l.drop (i + 1)).map TPoint.en, ∀ y ∈ r, Clo y := hdm ▸ clo_rows TPoint.clo_en
 repeat' ((first
  | (refine iAL ?_; first | refine AL.any ?_ | refine AL.any (h := POp.k Tryz.func172 (hc := isRing_s _ (by assumption))) ?_ | refine AL.F ?_ | refine AL.T ?_ | refine AL.T (h := POp.k Tryz.func96 (hc := inr_s _ _ _)) ?_ | refine AL.T (h := POp.k Tryz.func326 (hc := same_s l (drp l i) (by assumption) (by assumption))) ?_ | refine AL.nil ?_)
  | ((with_reducible show DLR ..); first | refine DLR.any ?_ | refine DLR.row rfl (fun Y => RowRun.empty (by rfl) (by rfl) (by first | exact rwk22 | exact rwk23 | exact rwk24 | exact rwk32 | exact rwk33 | exact rwk79)) rfl rfl ?_ | refine DLR.append rfl (by rfl) (by first | exact rwk22 | exact rwk23 | exact rwk24 | exact rwk32 | exact rwk33 | exact rwk79) (by rfl) rfl rfl rfl rfl rfl rfl (by rfl) (by first | (simp <;> omega) | omega) (by first | (simp [maxLen] <;> omega) | (simp_all [maxLen] <;> omega)) ?_ | refine DLR.nil ?_)
  | (refine iAW ?_; first | (rw [hdm]) | (refine AW.freeze /-Ret-/ (t := 6) (id := 0) rfl rfl rfl rfl (clo_rows TPoint.clo_en) ?_; try dsimp only [dput, List.set, cond_true, cond_false, Nat.zero_add, Nat.add_zero, Nat.reduceAdd, splice, List.take, List.drop, List.length, List.nil_append, List.cons_append, List.append, TPoint.en, TSegment.en, TBox.en, TFeature.en, TMeet.en, TPlace.en, TCover.en, TLabel.en, TPiece.en, TLevel.en, TChart.en, TReason.en, TEdit.en, TEntry.en, TEdition.en, TListing.en, TAtlas.en, TEvent.en, TWindow.en]) | (refine AW.freezeRet (t := 4) (id := 0) rfl rfl rfl rfl (clo_rows TPoint.clo_en) ?_; (try simp only [List.take_length]); try dsimp only [dput, List.set, cond_true, cond_false, Nat.zero_add, Nat.add_zero, Nat.reduceAdd, splice, List.take, List.drop, List.length, List.nil_append, List.cons_append, List.append, TPoint.en, TSegment.en, TBox.en, TFeature.en, TMeet.en, TPlace.en, TCover.en, TLabel.en, TPiece.en, TLevel.en, TChart.en, TReason.en, TEdit.en, TEntry.en, TEdition.en, TListing.en, TAtlas.en, TEvent.en, TWindow.en]) | (refine AW.freezeRet (t := 4) (id := 1) rfl rfl rfl rfl (clo_rows TPoint.clo_en) ?_; (try simp only [List.take_length]); try dsimp only [dput, List.set, cond_true, cond_false, Nat.zero_add, Nat.add_zero, Nat.reduceAdd, splice, List.take, List.drop, List.length, List.nil_append, List.cons_append, List.append, TPoint.en, TSegment.en, TBox.en, TFeature.en, TMeet.en, TPlace.en, TCover.en, TLabel.en, TPiece.en, TLevel.en, TChart.en, TReason.en, TEdit.en, TEntry.en, TEdition.en, TListing.en, TAtlas.en, TEvent.en, TWindow.en]) | (refine AW.c0 ?_; constructor) | refine AW.drawnR (id := 3) 9 1 [some 0, none, none, none, some 0, none, none, none, none] [some Rsv] rfl (by kernel_rfl) (by kernel_rfl) (by kernel_rfl) (by rfl) ?_ | refine AW.cT ?_ | refine AW.cF ?_)
  | ((with_reducible show DLR ..); first | refine DLR.any (h := fun Y => POp.quiet (QOp.cut_h (by rfl) slk79 (by rfl) (by rfl) (by first | decide | omega) (by first | assumption | omega) (by assumption))) ?_ | refine DLR.any (h := fun Y => POp.quiet (QOp.cut_l (by rfl) slk79 (by rfl) (by rfl) (by first | decide | omega) (by first | assumption | omega) (by assumption))) ?_)) <;> (try dsimp only))
 all_goals exact Fin.two rfl (RV.tmp (by rfl)) (RV.tmp (by rfl)) (Clo.tup (clo_cons (clo_list TPoint.clo_en) (clo_cons (clo_c _) clo_nil))) ⟨by rw [hpl, hpk], rfl⟩

abbrev pcL (p : List TPoint) : List AV := [.ro 2 (p.map TPoint.en)]
theorem clo_pcL : ∀ p : List TPoint, ∀ x ∈ pcL p, Clo x := fun p => clo_cons (clo_list TPoint.clo_en) clo_nil
abbrev sumTo (ps : List (List TPoint)) (i : Nat) : Nat := ((ps.take i).map List.length).sum
theorem sumTo_succ {ps : List (List TPoint)} {i : Nat} {p : List TPoint} (h : ps[i]? = some p) : sumTo ps (i + 1) = sumTo ps i + p.length := by
 unfold sumTo
 rw [take_succ_of h]
 simp
theorem sum_mono {ps : List (List TPoint)} : ∀ i, sumTo ps i ≤ sumTo ps (i + 1) := fun i => by
 cases h : ps[i]? with
 | some p => rw [sumTo_succ h]; omega
 | none =>
  have : ps.length ≤ i := List.getElem?_eq_none_iff.1 h
  unfold sumTo
  rw [List.take_of_length_le this, List.take_of_length_le (by omega)]
  exact Nat.le_refl _
theorem sumTo_le {ps : List (List TPoint)} : ∀ {i j : Nat}, i ≤ j → sumTo ps i ≤ sumTo ps j := fun {i j} h => by
 induction j with
 | zero => rw [show i = 0 by omega]; exact Nat.le_refl _
 | succ j ih =>
  rcases Nat.lt_or_ge j i with h2 | h2
  · rw [show i = j + 1 by omega]; exact Nat.le_refl _
  · exact Nat.le_trans (ih h2) (sum_mono j)
theorem flat_succ {ps : List (List TPoint)} {i : Nat} {p : List TPoint} (h : ps[i]? = some p) : (ps.take (i + 1)).flatten.map TPoint.en = (ps.take i).flatten.map TPoint.en ++ p.map TPoint.en := by
 rw [take_succ_of h, List.flatten_append, List.map_append]
 simp

theorem concat_v (ps : List (List TPoint)) (hps : ps.length ≤ 16) (hs1 : 0 < sumTo ps ps.length) (hs2 : sumTo ps ps.length ≤ 1048576) : VCalls Tryz.prog 337 [.ro 1 (ps.map pcL)] (fun r M => r = .own 0 0 ∧ M = [some ⟨141, 2, 0, false, (ps.flatten).map TPoint.en⟩]) := by
 refine VB Tryz.func337 35 (fun E hE => ?_)
 have a1 := True.intro
 have hclo : Clo (.ro 1 (ps.map pcL)) := clo_list clo_pcL
 repeat' ((first
  | (refine iAL ?_; first | refine AL.any ?_ | refine AL.any (h := POp.O Tryz.func340 (hc := grow_v (sumTo ps ps.length) (by assumption) (by assumption))) ?_ | refine AL.nil ?_)
  | (refine iAW ?_; first | (rw [hsm]) | (refine AW.c0 ?_; constructor) | refine AW.cT ?_ | refine AW.cF ?_)
  | (
 have _ := a1
 clear a1
 refine AW.loopD hE (fun s_ : Nat => [.ro 1 (ps.map pcL), .any, .any, I ((sumTo ps s_ : Nat) : Int), .any, .any, .any, .any, .any, .ro 1 (ps.map pcL), I ((ps.map pcL).length : Int), I (s_ : Int), .any, .any, .any, .any, .any, .any, .any, .any, .any, .any, .any, .any, .any, .any, .any, .any, .any, .any, .any, .any, .any, .any, .any, .any]) (fun s_ => []) (fun s_ => ps.length - s_) (fun s_ => s_ ≤ ps.length) 0 (Nat.zero_le _) ?_ (by first | rfl | (rfl)) ?_
 (focus ((refine wkj ?_; repeat' with_reducible constructor) <;> first | rfl | (simp [sumTo])))
 rintro i hJ
 try dsimp only at hJ
 try dsimp only
 by_cases hlt : i < ps.length
 case' pos =>
  have p1 := True.intro
  obtain ⟨x, hx⟩ := getD_some (l := ps) (i := i) hlt
  have hg := map_get (f := pcL) hx
  have ht := lt_true (f := pcL) hlt
  have hn := next_ix hlt (by omega)
  have hss := sumTo_succ hx
  have hle := sumTo_le (ps := ps) (i := i + 1) (j := ps.length) hlt
  have hsm : IntKind.i64.wrap (((sumTo ps i : Nat) : Int) + ((x.map TPoint.en).length : Int)) = ((sumTo ps (i + 1) : Nat) : Int) := by rw [List.length_map, w64 (by omega) (by omega), hss]; omega
  have hs0 : decide (((sumTo ps (i + 1) : Nat) : Int) < 0) = false := decide_eq_false (by omega)
  have hclx : Clo (.ro 2 (x.map TPoint.en)) := clo_list TPoint.clo_en
 case' neg =>
  have a2 := True.intro
  have ht := lt_false (f := pcL) hlt
  obtain rfl : i = ps.length := by omega)
  | (
 have _ := a2
 clear a2
 refine AW.loopD hE (fun s_ : Nat => [.ro 1 (ps.map pcL), .any, .any, .any, .any, .any, .own 0 s_, .any, .any, .any, .any, .any, .any, .any, .any, .any, .any, .any, .any, .any, .any, .any, .any, .any, .any, .ro 1 (ps.map pcL), I ((ps.map pcL).length : Int), I (s_ : Int), .any, .any, .any, .any, .any, .any, .any, .any]) (fun s_ => [some ⟨141, 2, s_, false, ((ps.take s_).flatten).map TPoint.en⟩]) (fun s_ => ps.length - s_) (fun s_ => s_ ≤ ps.length) 0 (Nat.zero_le _) ?_ (by first | rfl | (rfl)) ?_
 (focus (exact wkI))
 rintro j hJ
 try dsimp only at hJ
 try dsimp only
 by_cases hlt : j < ps.length
 case' pos =>
  have p2 := True.intro
  obtain ⟨x, hx⟩ := getD_some (l := ps) (i := j) hlt
  have hg := map_get (f := pcL) hx
  have ht := lt_true (f := pcL) hlt
  have hn := next_ix hlt (by omega)
  have hm := flat_succ hx
  have hf1 : (List.take j (List.map (List.length ∘ List.map TPoint.en) ps)).sum = sumTo ps j := by unfold sumTo; rw [List.map_take]; congr 2; exact List.map_congr_left fun p _ => by simp
  have hss := sumTo_succ hx
  have hle := sumTo_le (ps := ps) (i := j + 1) (j := ps.length) hlt
  have hclx : Clo (.ro 2 (x.map TPoint.en)) := clo_list TPoint.clo_en
 case' neg =>
  have q2 := True.intro
  have ht := lt_false (f := pcL) hlt
  obtain rfl : j = ps.length := by omega
  rw [List.take_length])) <;> (try dsimp only))
 all_goals first
  | (have _ := p1; refine ⟨i + 1, _, hlt, by omega, ?_, rfl, ?_, ?_⟩; (focus (exact wkH)); (focus (exact fitsA)); (focus (exact FitsM.nil _)))
  | (have _ := p2; refine ⟨j + 1, _, hlt, by omega, ?_, by rw [hm] <;> rfl, ?_, ?_⟩; (focus (exact wkH)); (focus (exact fitsA)); (focus (exact fits_row (clo_rows TPoint.clo_en))))
  | (have _ := q2; exact Fin.r1 [0] rfl (RV.tmp (by rfl)) ⟨rfl, rfl⟩)

theorem without_v (l : List TPoint) (i : Nat) (hl : l.length ≤ 1048576) (hil : i < l.length) (h2l : 2 ≤ l.length) : VCalls Tryz.prog 328 [.ro 2 (l.map TPoint.en), I (i : Int)] (fun r M => r = .own 0 0 ∧ M = [some ⟨141, 2, 0, false, (drp l i).map TPoint.en⟩]) := by
 refine VB Tryz.func328 12 (fun E hE => ?_)
 have hclo : Clo (.ro 2 (l.map TPoint.en)) := clo_list TPoint.clo_en
 obtain ⟨c1, c2, c3, c4, c5⟩ := drp_cut hil hl
 have hd := drp_len hil
 have hsum : sumTo [l.take i, l.drop (i + 1)] 2 = (drp l i).length := by simp [drp, sumTo]
 have hs1 : 0 < sumTo [l.take i, l.drop (i + 1)] [l.take i, l.drop (i + 1)].length := by show 0 < sumTo _ 2; omega
 have hs2 : sumTo [l.take i, l.drop (i + 1)] [l.take i, l.drop (i + 1)].length ≤ 1048576 := by show sumTo _ 2 ≤ _; omega
 have hca : Clo (.ro 2 ((l.take i).map TPoint.en)) := clo_list TPoint.clo_en
 have hcb : Clo (.ro 2 ((l.drop (i + 1)).map TPoint.en)) := clo_list TPoint.clo_en
 have hfl : [l.take i, l.drop (i + 1)].flatten = drp l i := by simp [drp]
 have hcr2 : ∀ r ∈ ([[.ro 2 ((l.take i).map TPoint.en)], [.ro 2 ((l.drop (i + 1)).map TPoint.en)]] : List (List AV)), ∀ x ∈ r, Clo x := fun r hr => by
  rcases List.mem_cons.1 hr with rfl | hr
  · exact clo_cons hca clo_nil
  · rw [List.mem_singleton.1 hr]; exact clo_cons hcb clo_nil
 have hcl2 : Clo (.ro 1 [[.ro 2 ((l.take i).map TPoint.en)], [.ro 2 ((l.drop (i + 1)).map TPoint.en)]]) := Clo.ro hcr2
 have hcl3 : Clo (.ro 1 ([[.ro 2 ((l.take i).map TPoint.en)], [.ro 2 ((l.drop (i + 1)).map TPoint.en)]] : List (List AV)).reverse) := Clo.ro fun r hr => hcr2 r (List.mem_reverse.1 hr)
 repeat' ((first
  | (refine iAL ?_; first | refine AL.at 12 (h := POp.lit0 (RowRun.literal (by rfl) rwk295 (by rfl) (by rfl) (by rfl) (by rfl) (by rfl) (by rfl)) hcr2) ?_ | refine AL.any ?_ | refine AL.any (h := POp.O Tryz.func337 (hc := concat_v [l.take i, l.drop (i + 1)] (by simp) hs1 hs2)) ?_ | refine AL.nil ?_)
  | ((with_reducible show DL ..); first | refine DL.any ?_ | refine DL.nil ?_)
  | (refine iAW ?_; first | (refine AW.c0 ?_; constructor) | refine AW.dr (id := 1) 7 ?_)
  | ((with_reducible show DL ..); first | refine DL.any (h := POp.quiet (QOp.cut_h (by rfl) slk79 (by rfl) (by rfl) (by first | decide | omega) (by first | assumption | omega) (by assumption))) ?_ | refine DL.any (h := POp.quiet (QOp.cut_l (by rfl) slk79 (by rfl) (by rfl) (by first | decide | omega) (by first | assumption | omega) (by assumption))) ?_)) <;> (try dsimp only))
 all_goals exact Fin.r1 [0] rfl (RV.tmp (by rfl)) ⟨rfl, by rw [hfl] <;> rfl⟩

theorem without_r (l : List TPoint) (i : Nat) (hl : l.length ≤ 1048576) (hil : i < l.length) (h2l : 2 ≤ l.length) : VCalls Tryz.prog 328 [.ro 2 (l.map TPoint.en), I (i : Int)] (fun r M => r = .ro 2 ((drp l i).map TPoint.en) ∧ M = []) := VCalls.frz (without_v l i hl hil h2l) vwlT
theorem cloneP_r (l : List TPoint) (hl : l.length ≤ 1048576) : VCalls Tryz.prog 178 [.ro 2 (l.map TPoint.en)] (fun r M => r = .ro 2 (l.map TPoint.en) ∧ M = []) := VCalls.frz (clonePoint l hl) vwlT
theorem dp_i (l : List TPoint) (i : Nat) (hl : l.length ≤ 1048576) : VCalls Tryz.prog 309 [.ro 2 (l.map TPoint.en), I (i : Int)] (fun r M => r = .tup [.ro 2 ((dpL l i).map TPoint.en), B (dpOk l i)] ∧ M = []) := by
 refine VB Tryz.func309 27 (fun E hE => ?_)
 have hclo : Clo (.ro 2 (l.map TPoint.en)) := clo_list TPoint.clo_en
 rcases dp_cases l i with ⟨h1, hpk, hpl⟩ | ⟨h1, h2, hpk, hpl⟩ | ⟨h1, h2, h3, hpk, hpl⟩ | ⟨h1, h2, h3, hpk, hpl⟩
 case' inr.inr.inl =>
  have hil : i < l.length := by have := inP_t hl h2; omega
  obtain ⟨c1, c2, c3, c4, c5⟩ := drp_cut hil hl
  have hd := drp_len hil
  have hl2 : (drp l i).length ≤ 1048576 := by omega
  have hdm := drp_map l i
  have hclD : Clo (.ro 2 ((drp l i).map TPoint.en)) := clo_list TPoint.clo_en
  have hcr : ∀ r ∈ (l.take i).map TPoint.en ++ (l.drop (i + 1)).map TPoint.en, ∀ y ∈ r, Clo y := hdm ▸ clo_rows TPoint.clo_en
  have hlr := inP_t hl h2
 case' inr.inr.inr =>
  have hil : i < l.length := by have := inP_t hl h2; omega
  obtain ⟨c1, c2, c3, c4, c5⟩ := drp_cut hil hl
  have hd := drp_len hil
  have hl2 : (drp l i).length ≤ 1048576 := by omega
  have hdm := drp_map l i
  have hclD : Clo (.ro 2 ((drp l i).map TPoint.en)) := clo_list TPoint.clo_en
  have hcr : ∀ r ∈ (l.take i).map TPoint.en ++ (l.drop (i + 1)).map TPoint.en, ∀ y ∈ r, Clo y := hdm ▸ clo_rows TPoint.clo_en
  have hlr := inP_t hl h2
 repeat' ((first
  | (refine iAL ?_; first | refine AL.any ?_ | refine AL.any (h := POp.k Tryz.func178 (hc := cloneP_r l hl)) ?_ | refine AL.any (h := POp.k Tryz.func245 (hc := isLine_i _ (by assumption))) ?_ | refine AL.any (h := POp.k Tryz.func328 (hc := without_r l i hl hil (by omega))) ?_ | refine AL.F ?_ | refine AL.T ?_ | refine AL.T (h := POp.k Tryz.func145 (hc := inr_v _ _ _)) ?_ | refine AL.nil ?_)
  | (refine iAW ?_; first | (refine AW.c0 ?_; constructor) | refine AW.cT ?_ | refine AW.cF ?_)) <;> (try dsimp only))
 all_goals exact Fin.two rfl (RV.tmp (by rfl)) (RV.tmp (by rfl)) (Clo.tup (clo_cons (clo_list TPoint.clo_en) (clo_cons (clo_c _) clo_nil))) ⟨by rw [hpl, hpk], rfl⟩

theorem dc_i (l : List TPoint) (i : Nat) (hl : l.length ≤ 1048576) : VCalls Tryz.prog 310 [.ro 2 (l.map TPoint.en), I (i : Int)] (fun r M => r = .tup [.ro 2 ((dcL l i).map TPoint.en), B (dcOk l i)] ∧ M = []) := by
 refine VB Tryz.func310 36 (fun E hE => ?_)
 have hclo : Clo (.ro 2 (l.map TPoint.en)) := clo_list TPoint.clo_en
 rcases dc_cases l i with ⟨h1, hpk, hpl⟩ | ⟨h1, h2, hpk, hpl⟩ | ⟨h1, h2, h3, hpk, hpl⟩ | ⟨h1, h2, h3, h4, hpk, hpl⟩ | ⟨h1, h2, h3, h4, hpk, hpl⟩
 case' inr.inr.inl =>
  have hil : i < l.length := inC_t hl h2
  obtain ⟨c1, c2, c3, c4, c5⟩ := drp_cut hil hl
  have hd := drp_len hil
  have hl2 : (drp l i).length ≤ 1048576 := by omega
  have hdm := drp_map l i
  have hclD : Clo (.ro 2 ((drp l i).map TPoint.en)) := clo_list TPoint.clo_en
  have hcr : ∀ r ∈ (l.take i).map TPoint.en ++ (l.drop (i + 1)).map TPoint.en, ∀ y ∈ r, Clo y := hdm ▸ clo_rows TPoint.clo_en
  have hlr := (isRing_len h1).1
 case' inr.inr.inr.inl =>
  have hil : i < l.length := inC_t hl h2
  obtain ⟨c1, c2, c3, c4, c5⟩ := drp_cut hil hl
  have hd := drp_len hil
  have hl2 : (drp l i).length ≤ 1048576 := by omega
  have hdm := drp_map l i
  have hclD : Clo (.ro 2 ((drp l i).map TPoint.en)) := clo_list TPoint.clo_en
  have hcr : ∀ r ∈ (l.take i).map TPoint.en ++ (l.drop (i + 1)).map TPoint.en, ∀ y ∈ r, Clo y := hdm ▸ clo_rows TPoint.clo_en
  have hlr := (isRing_len h1).1
 case' inr.inr.inr.inr =>
  have hil : i < l.length := inC_t hl h2
  obtain ⟨c1, c2, c3, c4, c5⟩ := drp_cut hil hl
  have hd := drp_len hil
  have hl2 : (drp l i).length ≤ 1048576 := by omega
  have hdm := drp_map l i
  have hclD : Clo (.ro 2 ((drp l i).map TPoint.en)) := clo_list TPoint.clo_en
  have hcr : ∀ r ∈ (l.take i).map TPoint.en ++ (l.drop (i + 1)).map TPoint.en, ∀ y ∈ r, Clo y := hdm ▸ clo_rows TPoint.clo_en
  have hlr := (isRing_len h1).1
 case' inr.inr.inr.inl => have hcm := turn_cmp h1 h3
 case' inr.inr.inr.inr => have hcm := turn_cmp h1 h3
 all_goals try (rw [h4] at hcm; simp only [Bool.not_true, Bool.not_false] at hcm)
 repeat' ((first
  | (refine iAL ?_; first | refine AL.any ?_ | refine AL.any (h := POp.k Tryz.func178 (hc := cloneP_r l hl)) ?_ | refine AL.any (h := POp.k Tryz.func182 (hc := isRing_i _ (by assumption))) ?_ | refine AL.any (h := POp.k Tryz.func328 (hc := without_r l i hl hil (by omega))) ?_ | refine AL.F ?_ | refine AL.T ?_ | refine AL.T (h := POp.k Tryz.func128 (hc := cmp_v _ _)) ?_ | refine AL.T (h := POp.k Tryz.func145 (hc := inr_v _ _ _)) ?_ | refine AL.T (h := POp.k Tryz.func329 (hc := by first | exact twice_i l hl | exact twice_i (drp l i) hl2)) ?_ | refine AL.nil ?_)
  | (refine iAW ?_; first | (refine AW.c0 ?_; constructor) | refine AW.cT ?_ | refine AW.cF ?_)) <;> (try dsimp only))
 all_goals exact Fin.two rfl (RV.tmp (by rfl)) (RV.tmp (by rfl)) (Clo.tup (clo_cons (clo_list TPoint.clo_en) (clo_cons (clo_c _) clo_nil))) ⟨by rw [hpl, hpk], rfl⟩

theorem ix_dn {k : Nat} (h0 : 0 < k) (hk : k ≤ 1073741824) : 0 ≤ IntKind.i64.wrap ((k : Int) - 1) ∧ IntKind.i64.wrap ((k : Int) - 1) = ((k - 1 : Nat) : Int) ∧ (IntKind.i64.wrap ((k : Int) - 1)).toNat = k - 1 := by
 rw [w64 (by omega) (by omega)]
 omega
end Go.Proofs.YtpffahmmklpifaaGreat.Abs

/- Sorts of rows of ours, by the library's contracts. -/
namespace Go.Proofs.YtpffahmmklpifaaGreat.Abs
open Go.Proofs Go.RowKit
set_option linter.unusedVariables false
set_option linter.unusedSimpArgs false
set_option maxRecDepth 100000
set_option maxHeartbeats 2000000
attribute [local irreducible] OpA AL AW DL DLM DLR DLS QOp POp VCalls VCallsI
open Go.Shelf Go.Lib Go.Sort
section
variable {α : Type} [Inhabited α] {P : Program} {w : World} {base : Nat} {ty : TypeId} {sz n cap blk : Nat} {xs : List Value}
theorem heap_mapBlock (w : World) (blk : Nat) (f : Array Value → Array Value) (k : Nat) : (Sort.mapBlock w blk f).heap[k]? = if blk = k then (w.heap[k]?).map (Sort.onCells f) else w.heap[k]? := by
 unfold Sort.mapBlock
 simp only [Array.getElem?_modify]
theorem put_own (enc : α → Value) (hown : w.ownsRow base ty sz (.slice (some ⟨blk, 0, none⟩) n cap) n xs) (d : Array α) (hd : d.size = n * sz) (m : Nat) (os : Array Obj) :
 w.grownBy (Sort.grow (Sort.putRow enc (Sort.ahead w m) blk 0 d) os) (some blk) ∧ (Sort.grow (Sort.putRow enc (Sort.ahead w m) blk 0 d) os).ownsRow base ty sz (.slice (some ⟨blk, 0, none⟩) n cap) n (d.toList.map enc) := by
 obtain ⟨hx, h⟩ := hown
 rcases h with ⟨e, _⟩ | ⟨g, cap', cur, e, hb, hg, hnc, hcm, hcs, ht⟩
 · cases e
 · cases e
   have hlt : blk < w.heap.size := (Array.getElem?_eq_some_iff.1 hg).1
   have hh : ∀ k, k < w.heap.size → (Sort.grow (Sort.putRow enc (Sort.ahead w m) blk 0 d) os).heap[k]? = if blk = k then (w.heap[k]?).map (Sort.onCells (Sort.putCells enc 0 d)) else w.heap[k]? := fun k hk => by
    have e1 : (Sort.grow (Sort.putRow enc (Sort.ahead w m) blk 0 d) os).heap[k]? = (Sort.putRow enc (Sort.ahead w m) blk 0 d).heap[k]? := by
     unfold Sort.grow
     exact Array.getElem?_append_left (by rw [Sort.size_putRow]; exact hk)
    rw [e1]
    exact heap_mapBlock (Sort.ahead w m) blk _ k
   refine ⟨⟨rfl, rfl, rfl, by rw [Sort.size_grow, Sort.size_putRow]; exact Nat.le_add_right _ _, fun k hk hne => by rw [hh k hk, if_neg (fun e => hne (by rw [e]))]⟩, by rw [List.length_map, Array.length_toList, hd], .inr ⟨blk, cap, Sort.putCells enc 0 d cur, rfl, hb, by rw [hh blk hlt, if_pos rfl, hg]; rfl, hnc, hcm, by simp [Sort.putCells, hcs], ?_⟩⟩
   refine List.ext_getElem? fun j => ?_
   have hnz : n * sz ≤ cap * sz := Nat.mul_le_mul_right _ hnc
   rw [List.getElem?_take, List.getElem?_map]
   by_cases hj : j < n * sz
   · rw [if_pos hj]
     have hjd : j < d.size := by omega
     have hjc : j < cur.size := by omega
     simp only [Sort.putCells, Array.toList_mapIdx, List.getElem?_mapIdx, Array.getElem?_toList, Array.getElem?_eq_getElem hjc, Array.getElem?_eq_getElem hjd, Option.map_some]
     rw [if_pos ⟨by omega, by omega⟩, Nat.sub_zero, getElem!_pos d j hjd]
   · rw [if_neg hj, Array.getElem?_toList, Array.getElem?_eq_none (by omega)]
     rfl
theorem own_holds (enc : α → Value) (d : Array α) (hd : d.size = n * sz) (hown : w.ownsRow base ty sz (.slice (some ⟨blk, 0, none⟩) n cap) n (d.toList.map enc)) : Sort.Holds enc w blk 0 d ∧ blk < w.heap.size := by
 obtain ⟨hx, h⟩ := hown
 rcases h with ⟨e, _⟩ | ⟨g, cap', cur, e, hb, hg, hnc, hcm, hcs, ht⟩
 · cases e
 · cases e
   have hlt : blk < w.heap.size := (Array.getElem?_eq_some_iff.1 hg).1
   refine ⟨fun j hj => ⟨?_, by simp [World.frozen?, hg]⟩, hlt⟩
   rw [Nat.zero_add, cell_of_row w blk j cur ty (0, 0) hg]
   have h2 : (cur.toList.take (n * sz))[j]? = (d.toList.map enc)[j]? := by rw [ht]
   rw [List.getElem?_take, if_pos (by omega), List.getElem?_map, Array.getElem?_toList, Array.getElem?_toList, Array.getElem?_eq_getElem hj] at h2
   rw [h2, getElem!_pos d j hj]
   rfl
theorem flatV_map {β : Type} (en : β → List AV) (vl : β → List Value) (h : ∀ x, en x = (vl x).map .c) (l : List β) : flatV (l.map en) = (l.map vl).flatten := by
 unfold flatV
 rw [List.map_map]
 congr 1
 refine List.map_congr_left fun x _ => ?_
 show (en x).map valOf = vl x
 rw [h x, List.map_map]
 exact (List.map_congr_left (g := id) fun _ _ => rfl).trans (List.map_id _)
theorem PlR.map {β : Type} {k : Nat} (en : β → List AV) (vl : β → List Value) (h : ∀ x, en x = (vl x).map .c) (hk : ∀ x, (vl x).length = k) (h1 : ∀ x, ∀ v ∈ vl x, v.oneCell' = true) (l : List β) : PlR k (l.map en) :=
 ⟨fun r hr => by
  obtain ⟨x, _, rfl⟩ := List.mem_map.1 hr
  rw [h, List.length_map, hk], fun r hr y hy => by
  obtain ⟨x, _, rfl⟩ := List.mem_map.1 hr
  rw [h] at hy
  obtain ⟨v, hv, rfl⟩ := List.mem_map.1 hy
  exact ⟨v, rfl, h1 x v hv⟩⟩
theorem flatK_toList (enc : α → List Value) (k : Nat) (hk : ∀ x, (enc x).length = k) (l : List α) : (Go.Sort.flatK enc k l.toArray).toList = (l.map enc).flatten := by
 obtain ⟨f1, f2⟩ := flat_get (sz := k) (l.map enc) (fun r hr => by
  obtain ⟨x, _, rfl⟩ := List.mem_map.1 hr
  exact hk x)
 have hs : (Go.Sort.flatK enc k l.toArray).size = l.length * k := by rw [Go.Sort.size_flatK]; simp
 refine List.ext_getElem? fun j => ?_
 by_cases hj : j < l.length * k
 · have h0 : 0 < k := by
    rcases Nat.eq_zero_or_pos k with e | e
    · subst e; omega
    · exact e
   have hi : j / k < l.length := (Nat.div_lt_iff_lt_mul h0).2 hj
   have e := f2 (j / k) (j % k) (enc l[j / k]) (by rw [List.getElem?_map, List.getElem?_eq_getElem hi]; rfl) (Nat.mod_lt _ h0)
   rw [Nat.div_add_mod'] at e
   have hi2 : j / k < l.toArray.size := by simpa using hi
   have hm : j % k < (enc l[j / k]).length := by rw [hk]; exact Nat.mod_lt _ h0
   have hg := Go.Sort.get_flatK enc k l.toArray j (by simpa using hj)
   have hj2 : j < (Go.Sort.flatK enc k l.toArray).size := by rw [hs]; exact hj
   rw [getElem!_pos (Go.Sort.flatK enc k l.toArray) j hj2, getElem!_pos l.toArray (j / k) hi2] at hg
   simp only [List.getElem_toArray] at hg
   rw [getElem!_pos (enc l[j / k]) (j % k) hm] at hg
   rw [e, Array.getElem?_toList, Array.getElem?_eq_getElem hj2, hg, List.getElem?_eq_getElem hm]
 · rw [List.getElem?_eq_none (by rw [Array.length_toList, hs]; omega), List.getElem?_eq_none (by rw [f1, List.length_map]; omega)]
end

theorem flat1 {α β : Type} (f : α → β) (l : List α) : (l.map fun x => [f x]).flatten = l.map f := by
 induction l with
 | nil => rfl
 | cons a l ih => rw [List.map_cons, List.flatten_cons, ih]; rfl
abbrev vI (x : Int) : List Value := [.int .i64 x]
theorem plI (l : List Int) : PlR 1 (l.map enI) := PlR.map enI vI (fun _ => rfl) (fun _ => rfl) (fun x v hv => by simp [vI] at hv; subst hv; rfl) l
theorem flI (l : List Int) : flatV (l.map enI) = l.toArray.toList.map (Value.int .i64) := by rw [flatV_map enI vI (fun _ => rfl) l]; exact flat1 _ l
section
variable {P : Program} {f : FuncId} {ty : TypeId}
theorem sort_ints (hs : ∀ (blk off cap : Nat) (zs : List Int) (w : World), Sort.Holds (Value.int .i64) w blk off zs.toArray → blk < w.heap.size → zs.length < 4611686018427387904 → Calls P f #[.slice (some ⟨blk, off, none⟩) zs.length cap] w fun e w' => e = .returned (.tuple #[]) ∧ ∃ n os, w' = Sort.grow (Sort.putRow (Value.int .i64) (Sort.ahead w n) blk off (zs.mergeSort fun x y => decide (x ≤ y)).toArray) os)
 (h0 : ∀ (p : Option Addr) (cap : Nat) (w : World), Calls P f #[.slice p 0 cap] w fun e w' => e = .returned (.tuple #[]) ∧ w' = w) (l : List Int) (hl : l.length ≤ 1073741824) :
 ACalls P f [.own 0 0] [some ⟨ty, 1, 0, false, l.map enI⟩] (fun r M' => r = .c (.tuple #[]) ∧ ∃ Mx, M' = [⟨ty, 1, 0, false, (l.mergeSort fun x y => decide (x ≤ y)).map enI⟩].map some ++ Mx) := by
 refine acalls_put (extra := []) (ex := []) (plI l) (plI _) (by simp [List.length_mergeSort]) (fun w Fx β G us h => Array.eq_empty_of_size_eq_zero h.1) (fun w base v hown hb => ?_)
 rw [flI] at hown
 rw [flI]
 rcases hown.2 with ⟨rfl, hn⟩ | ⟨g, cap, cur, rfl, _⟩
 · have e : l = [] := by simpa using hn
   subst e
   refine (h0 none 0 w).mono ?_
   rintro e w' ⟨rfl, rfl⟩
   exact ⟨rfl, ⟨rfl, rfl, rfl, Nat.le_refl _, fun _ _ _ => rfl⟩, by simpa using hown⟩
 · obtain ⟨h1, h2⟩ := own_holds (Value.int .i64) l.toArray (by simp) hown
   rw [List.length_map] at *
   refine (hs g 0 cap l w h1 h2 (by omega)).mono ?_
   rintro e w' ⟨rfl, n, os, rfl⟩
   obtain ⟨q1, q2⟩ := put_own (Value.int .i64) hown (l.mergeSort fun x y => decide (x ≤ y)).toArray (by simp [List.length_mergeSort]) n os
   exact ⟨rfl, q1, q2⟩
end
section
variable {P : Program} {f g : FuncId} {ty : TypeId} {α : Type} [Inhabited α] {k : Nat}
theorem sort_k (en : α → List AV) (vl : α → List Value) (hen : ∀ x, en x = (vl x).map .c) (hk : ∀ x, (vl x).length = k) (h1v : ∀ x, ∀ v ∈ vl x, v.oneCell' = true) (l l' : List α) (hll : l'.length = l.length) (hl : l.length ≤ 1073741824)
 (hs : ∀ (blk cap : Nat) (w : World), Sort.HoldsK vl k w blk 0 l.toArray → blk < w.heap.size → Calls P f #[.slice (some ⟨blk, 0, none⟩) l.length cap, .func (.func g) #[] #[]] w fun e w' => e = .returned (.tuple #[]) ∧ ∃ n os, w' = sortWorldK vl k w blk 0 n l'.toArray os)
 (h0 : ∀ (p : Option Addr) (cap : Nat) (fv : Value) (w : World), Calls P f #[.slice p 0 cap, fv] w fun e w' => e = .returned (.tuple #[]) ∧ w' = w) :
 ACalls P f [.own 0 0, .fn g []] [some ⟨ty, k, 0, false, l.map en⟩] (fun r M' => r = .c (.tuple #[]) ∧ ∃ Mx, M' = [⟨ty, k, 0, false, l'.map en⟩].map some ++ Mx) := by
 refine acalls_put (extra := [.fn g []]) (ex := [.func (.func g) #[] #[]]) (PlR.map en vl hen hk h1v l) (PlR.map en vl hen hk h1v l') (by simp [hll]) (fun w Fx β G us h => ?_) (fun w base v hown hb => ?_)
 · obtain ⟨h1, h2⟩ := h
   obtain ⟨ul, rfl⟩ : ∃ ul : List Value, us = ul.toArray := ⟨us.toList, by simp⟩
   match ul, h1 with
   | [u], _ =>
    have := h2 0 _ u rfl (by simp)
    cases this with
    | @fn _ _ us2 hl2 _ =>
     obtain rfl : us2 = [] := List.eq_nil_of_length_eq_zero (by simpa using hl2)
     rfl
 · rw [flatV_map en vl hen, ← flatK_toList vl k hk] at hown
   rw [flatV_map en vl hen, ← flatK_toList vl k hk]
   rw [List.length_map] at *
   have hmid : ∀ L : List Value, L.map id = L := List.map_id
   rcases hown.2 with ⟨rfl, hn⟩ | ⟨b, cap, cur, rfl, _⟩
   · have e : l = [] := List.eq_nil_of_length_eq_zero hn
     subst e
     have e2 : l' = [] := List.eq_nil_of_length_eq_zero (by simpa using hll)
     subst e2
     refine (h0 none 0 (.func (.func g) #[] #[]) w).mono ?_
     rintro e w' ⟨rfl, rfl⟩
     exact ⟨rfl, ⟨rfl, rfl, rfl, Nat.le_refl _, fun _ _ _ => rfl⟩, hown⟩
   · rw [← hmid (Go.Sort.flatK vl k l.toArray).toList] at hown
     obtain ⟨h1, h2⟩ := own_holds id (Go.Sort.flatK vl k l.toArray) (by rw [Go.Sort.size_flatK]; simp) hown
     refine (hs b cap w h1 h2).mono ?_
     rintro e w' ⟨rfl, n, os, rfl⟩
     obtain ⟨q1, q2⟩ := put_own id hown (Go.Sort.flatK vl k l'.toArray) (by rw [Go.Sort.size_flatK]; simp [hll]) n os
     rw [hmid] at q2
     exact ⟨rfl, q1, q2⟩
end

theorem sortI (l : List Int) (hl : l.length ≤ 1073741824) : ACalls Tryz.prog 62 [.own 0 0] [some ⟨3, 1, 0, false, l.map enI⟩] (fun r M' => r = .c (.tuple #[]) ∧ ∃ Mx, M' = [⟨3, 1, 0, false, (l.mergeSort fun x y => decide (x ≤ y)).map enI⟩].map some ++ Mx) :=
 sort_ints (fun blk off cap zs w h1 h2 h3 => Tryz.slices_Sort_int blk off cap zs w h1 h2 h3) (fun p cap w => Tryz.slices_Sort_int_none p cap w) l hl
theorem aboveR (x y : TPlace) (W : World) : Calls Tryz.prog 161 #[.agg #[.int .i64 x.id, .int .i64 x.at_.x, .int .i64 x.at_.y, .int .i64 x.rank], .agg #[.int .i64 y.id, .int .i64 y.at_.x, .int .i64 y.at_.y, .int .i64 y.rank]] W fun e w' => e = .returned (.bool (above x y)) ∧ w' = (W.alloc (.cells #[.int .i64 x.id, .int .i64 x.at_.x, .int .i64 x.at_.y, .int .i64 x.rank] 187)).alloc (.cells #[.int .i64 y.id, .int .i64 y.at_.x, .int .i64 y.at_.y, .int .i64 y.rank] 187) := by
 have mixed : Tryz.prog.follows .mixedOrders = true := by kernel_rfl
 rcases Bool.eq_false_or_eq_true (decide (x.rank > y.rank)) with h1 | h1
 rotate_left 1
 rcases Bool.eq_false_or_eq_true (x.rank == y.rank) with h2 | h2
 all_goals
  go_enter Tryz.func161, Tryz.ntmps161
  go_wp2
  go_ret
  refine ⟨?_, rfl⟩
  unfold above
  simp only [*, Bool.true_or, Bool.false_or, Bool.true_and, Bool.false_and]
  rfl
def cmpA (x y : TPlace) : Int := if above x y = true then -1 else if above y x = true then 1 else 0
theorem cmpA_calls (x y : TPlace) (W : World) : Calls Tryz.prog 280 #[.agg #[.int .i64 x.id, .int .i64 x.at_.x, .int .i64 x.at_.y, .int .i64 x.rank], .agg #[.int .i64 y.id, .int .i64 y.at_.x, .int .i64 y.at_.y, .int .i64 y.rank]] W fun e w' => e = .returned (.int .i64 (cmpA x y)) ∧ ∃ q os', w' = grow (W.drewN q) os' := by
 have mixed : Tryz.prog.follows .mixedOrders = true := by kernel_rfl
 have e161 : ∀ args w, (callFunc 161 args).run Tryz.prog w = .ok (.enter 161 args) w := enters_of Tryz.func161 (by kernel_rfl) rfl
 rcases Bool.eq_false_or_eq_true (above x y) with h1 | h1
 rotate_left 1
 rcases Bool.eq_false_or_eq_true (above y x) with h2 | h2
 all_goals
  go_enter Tryz.func280, Tryz.ntmps280
  go_wp2_with (go_at_fn 161; first | (with_reducible refine (aboveR x y _).mono ?_; rintro e w' ⟨rfl, rfl⟩; rw [h1]) | (with_reducible refine (aboveR y x _).mono ?_; rintro e w' ⟨rfl, rfl⟩; rw [h2]))
  go_ret
  refine ⟨?_, 0, _, by simp only [alloc_eq_grow, grow_grow, World.drewN_zero]; rfl⟩
  unfold cmpA
  simp only [*]
  rfl
theorem ltA_iff (x y : TPlace) : ltOf cmpA x y = above x y := by
 unfold ltOf cmpA
 cases h : above x y
 · cases above y x <;> simp
 · simp
theorem swoA : SWO (ltOf cmpA) where
 irrefl x := by
  rw [ltA_iff]
  cases h : above x x
  · rfl
  · exact (above_anti h h).elim
 trans x y z h1 h2 := by rw [ltA_iff] at *; exact above_tr h1 h2
 ntrans x y z h1 h2 := by
  rw [ltA_iff] at *
  cases h : above x z
  · rfl
  · have h3 := (above_iff _ _).1 h
    have h4 : ¬ above x y = true := by rw [h1]; decide
    have h5 : ¬ above y z = true := by rw [h2]; decide
    rw [above_iff] at h4 h5
    omega
abbrev vPl (x : TPlace) : List Value := [.int .i64 x.id, .int .i64 x.at_.x, .int .i64 x.at_.y, .int .i64 x.rank]
instance : Inhabited TPlace := ⟨⟨0, ⟨0, 0⟩, 0⟩⟩
theorem ins_srtA {l : List TPlace} (hp : PlOk l) : Sort.insertionSort (ltOf cmpA) l.toArray 0 l.length = (srtA l).toArray := by
 obtain ⟨⟨h1, _, h2⟩, h3⟩ := insertionSort_holds swoA l.toArray 0 l.length (Nat.zero_le _) (by simp)
 generalize Sort.insertionSort (ltOf cmpA) l.toArray 0 l.length = d at *
 have hs : d.size = l.length := by simpa using h1
 have e1 : d.extract 0 l.length = d := by rw [← hs]; simp
 have e2 : l.toArray.extract 0 l.length = l.toArray := by simp
 rw [e1, e2] at h2
 have hpw : d.toList.Pairwise fun x y => above y x = false := by
  rw [List.pairwise_iff_getElem]
  intro i j hi hj hij
  have := h3 i j (Nat.zero_le _) hij (by simp at hj; omega)
  rw [ltA_iff] at this
  rw [getElem!_pos d j (by simpa using hj), getElem!_pos d i (by simpa using hi)] at this
  simpa using this
 have := srtA_uni hp.ne (by simpa using h2) hpw
 rw [← this]
theorem insP (l : List TPlace) (hp : PlOk l) : ACalls Tryz.prog 330 [.own 0 0, I 0, I ((l.map TPlace.en).length : Int), .fn 280 []] [some ⟨187, 4, 0, false, l.map TPlace.en⟩] (fun r M' => r = .c (.tuple #[]) ∧ ∃ Mx, M' = [⟨187, 4, 0, false, (srtA l).map TPlace.en⟩].map some ++ Mx) := by
 have hlen := hp.len
 have hll := srtA_len l
 refine acalls_put (extra := [I 0, I ((l.map TPlace.en).length : Int), .fn 280 []]) (ex := [.int .i64 0, .int .i64 ((l.map TPlace.en).length : Int), .func (.func 280) #[] #[]]) (PlR.map TPlace.en vPl (fun _ => rfl) (fun _ => rfl) (fun x v hv => by simp [vPl] at hv; rcases hv with rfl | rfl | rfl | rfl <;> rfl) l) (PlR.map TPlace.en vPl (fun _ => rfl) (fun _ => rfl) (fun x v hv => by simp [vPl] at hv; rcases hv with rfl | rfl | rfl | rfl <;> rfl) (srtA l)) (by simp [hll]) (fun w Fx β G us h => ?_) (fun w base v hown hb => ?_)
 · obtain ⟨h1, h2⟩ := h
   obtain ⟨ul, rfl⟩ : ∃ ul : List Value, us = ul.toArray := ⟨us.toList, by simp⟩
   match ul, h1 with
   | [u0, u1, u2], _ =>
    have e0 := (h2 0 _ u0 rfl (by simp)).c_inv
    have e1 := (h2 1 _ u1 rfl (by simp)).c_inv
    have := h2 2 _ u2 rfl (by simp)
    cases this with
    | @fn _ _ us2 hl2 _ =>
     obtain rfl : us2 = [] := List.eq_nil_of_length_eq_zero (by simpa using hl2)
     rw [e0, e1]
 · rw [flatV_map TPlace.en vPl (fun _ => rfl), ← flatK_toList vPl 4 (fun _ => rfl)] at hown
   rw [flatV_map TPlace.en vPl (fun _ => rfl), ← flatK_toList vPl 4 (fun _ => rfl)]
   rw [List.length_map] at *
   have hmid : ∀ L : List Value, L.map id = L := List.map_id
   rcases hown.2 with ⟨rfl, hn⟩ | ⟨b, cap, cur, rfl, _⟩
   · have e : l = [] := List.eq_nil_of_length_eq_zero hn
     subst e
     refine (AnyF.insertionSortCmpFunc_none Tryz.laysInsP none 0 (.func (.func 280) #[] #[]) w).mono ?_
     rintro e w' ⟨rfl, rfl⟩
     exact ⟨rfl, ⟨rfl, rfl, rfl, Nat.le_refl _, fun _ _ _ => rfl⟩, hown⟩
   · rw [← hmid (Go.Sort.flatK vPl 4 l.toArray).toList] at hown
     obtain ⟨h1, h2⟩ := own_holds id (Go.Sort.flatK vPl 4 l.toArray) (by rw [Go.Sort.size_flatK]; simp) hown
     have hc := AnyQ.insertionSortCmpFunc Tryz.laysInsP 4 Tryz.isAgg187 Tryz.sizeOf187 vPl (fun _ => rfl) (fun x v hv => by simp [vPl] at hv; rcases hv with rfl | rfl | rfl | rfl <;> rfl) cmpA 280 #[] b 0 cap 0 l.length l.toArray w (enters_of Tryz.func280 (by kernel_rfl) rfl) (fun _ _ _ _ x y => cmpA_calls x y _) h1 h2 (Nat.zero_le _) (by simp) (by simp; omega)
     rw [ins_srtA hp] at hc
     refine hc.mono ?_
     rintro e w' ⟨rfl, n, os, rfl⟩
     obtain ⟨q1, q2⟩ := put_own id hown (Go.Sort.flatK vPl 4 (srtA l).toArray) (by rw [Go.Sort.size_flatK]; simp [hll]) n os
     rw [hmid] at q2
     exact ⟨rfl, q1, q2⟩
theorem ACalls.unit {P : Program} {f : FuncId} {args : List AV} {Ms : Mem} {Q : Mem → Prop} (h : ACalls P f args Ms (fun r M => r = .tup [] ∧ Q M)) : ACalls P f args Ms (fun r M => r = .c (.tuple #[]) ∧ Q M) := by
 intro E vals hM hh hs
 refine (h E vals hM hh hs).mono ?_
 rintro e w' ⟨v, r, M', Fx, β, rfl, ⟨rfl, hq⟩, hh', ho, hrep⟩
 cases hrep with
 | @tup _ us hl _ =>
  obtain rfl : us = [] := List.eq_nil_of_length_eq_zero (by simpa using hl)
  exact ⟨_, .c (.tuple #[]), M', Fx, β, rfl, ⟨rfl, hq⟩, hh', ho, .c _⟩

end Go.Proofs.YtpffahmmklpifaaGreat.Abs

/- The walks of the stable sort of places and of the places that are kept (program). -/
namespace Go.Proofs.YtpffahmmklpifaaGreat.Abs
open Go.Proofs Go.RowKit
set_option linter.unusedVariables false
set_option linter.unusedSimpArgs false
set_option maxRecDepth 100000
set_option maxHeartbeats 2000000
attribute [local irreducible] OpA AL AW DL DLM DLR DLS QOp POp VCalls VCallsI
theorem stbP (l : List TPlace) (hp : PlOk l) : ACalls Tryz.prog 311 [.own 0 0, I ((l.map TPlace.en).length : Int), .fn 280 []] [some ⟨187, 4, 0, false, (l).map TPlace.en⟩] (fun r M => r = .c (.tuple #[]) ∧ ∃ Mx, M = [⟨187, 4, 0, false, (srtA l).map TPlace.en⟩].map some ++ Mx) := by
 refine ACalls.unit ?_
 have hpl := hp.len
 have a1 := True.intro
 refine ACalls.body Tryz.func311 rfl 60 rfl (fun E hE => ?_)
 simp only [List.reduceReplicate, List.cons_append, List.nil_append]
 repeat' ((first
  | (refine iAL ?_; first | refine AL.any ?_ | refine AL.any (h := POp.H [0] Tryz.func330 (hc := insP l (by assumption))) ?_ | refine AL.nil ?_)
  | (refine iAW ?_; first | (refine AW.c0 ?_; constructor) | refine AW.cF ?_)
  | (
 have _ := a1
 clear a1
 refine AW.loopE (fun s_ : Nat => [.own 0 0, I ((l.map TPlace.en).length : Int), .fn 280 [], .any, .any, .any, I 20, I 0, I 20, .any, .any, .any, .any, .any, .any, .any, .any, .any, .any, .any, .any, .any, .any, .any, .any, .any, .any, .any, .any, .any, .any, .any, .any, .any, .any, .any, .any, .any, .any, .any, .any, .any, .any, .any, .any, .any, .any, .any, .any, .any, .any, .any, .any, .any, .any, .any, .any, .any, .any, .any, .any, .any, .any]) (fun s_ => [some ⟨187, 4, 0, false, (l).map TPlace.en⟩]) (fun s_ => by rw [hE]; exact Nat.le_refl _) (fun s_ => 0) (fun s_ => True) 0 trivial ?_ (by first | rfl | (rfl)) ?_
 (focus (exact wkI))
 rintro q hJ
 try dsimp only at hJ
 try dsimp only
 by_cases hlt : False
 case' pos =>
  have b1 := True.intro
  exact hlt.elim
 case' neg =>
  have a2 := True.intro
  have ht : decide ((20 : Int) ≤ ((l.map TPlace.en).length : Int)) = false := by rw [List.length_map]; simp; omega)
  | (
 have _ := a2
 clear a2
 refine AW.loopE (fun s_ : Nat => [.own 0 0, I ((l.map TPlace.en).length : Int), .fn 280 [], .any, .any, .any, I 20, I 0, I 20, .any, .any, .any, .any, .any, .any, .any, .any, .any, .any, .any, .any, .any, .any, .any, .any, .any, .any, .any, .any, .any, .any, .any, .any, .any, .any, .any, .any, .any, .any, .any, .any, .any, .any, .any, .any, .any, .any, .any, .any, .any, .any, .any, .any, .any, .any, .any, .any, .any, .any, .any, .any, .any, .any]) (fun s_ => [some ⟨187, 4, 0, false, (srtA l).map TPlace.en⟩]) (fun s_ => by rw [hE]; exact Nat.le_refl _) (fun s_ => 0) (fun s_ => True) 0 trivial ?_ (by first | rfl | (rfl)) ?_
 (focus (exact wkI))
 rintro q hJ
 try dsimp only at hJ
 try dsimp only
 by_cases hlt : False
 case' pos =>
  have b2 := True.intro
  exact hlt.elim
 case' neg =>
  have c2 := True.intro
  have ht : decide ((20 : Int) < ((l.map TPlace.en).length : Int)) = false := by rw [List.length_map]; simp; omega)
  | with_reducible refine ifP ?_) <;> (try dsimp only))
 all_goals exact ⟨by first | exact .inl rfl | exact .inr rfl, _, ResA.none rfl, rfl, [], rfl⟩

theorem ssfP (l : List TPlace) (hp : PlOk l) : ACalls Tryz.prog 279 [.own 0 0, .fn 280 []] [some ⟨187, 4, 0, false, (l).map TPlace.en⟩] (fun r M => r = .c (.tuple #[]) ∧ ∃ Mx, M = [⟨187, 4, 0, false, (srtA l).map TPlace.en⟩].map some ++ Mx) := by
 refine ACalls.unit ?_
 have hpl := hp.len
 have a1 := True.intro
 refine ACalls.body Tryz.func279 rfl 7 rfl (fun E hE => ?_)
 simp only [List.reduceReplicate, List.cons_append, List.nil_append]
 repeat' ((first
  | (refine iAL ?_; first | refine AL.any ?_ | refine AL.any (h := POp.H [0] Tryz.func311 (hc := stbP l (by assumption))) ?_ | refine AL.nil ?_)
  | (refine iAW ?_; (refine AW.c0 ?_; constructor))) <;> (try dsimp only))
 all_goals exact ⟨by first | exact .inl rfl | exact .inr rfl, _, ResA.none rfl, rfl, [], rfl⟩

theorem clonePlace (l : List TPlace) (hl : l.length ≤ 1048576) : VCalls Tryz.prog 278 [.ro 4 (l.map TPlace.en)] (fun r M => r = .own 0 0 ∧ M = [some ⟨187, 4, 0, false, l.map TPlace.en⟩]) := by
 refine VB Tryz.func278 7 (fun E hE => ?_)
 have hclo : Clo (.ro 4 (l.map TPlace.en)) := clo_list TPlace.clo_en
 repeat' ((first
  | (refine iAL ?_; first | refine AL.any ?_ | refine AL.nil ?_)
  | (refine iAW ?_; first | (refine AW.adoptRet (t := 2) 187 4 rfl Adopt.nil ?_) | (refine AW.c0 ?_; constructor) | (refine AW.c2 ?_ ?_ <;> (intro h; try simp only [bT, bF] at h)))
  | ((refine AL.isnil (by rfl) (by rfl) (TT_ok.sl _ _ (by rfl)) (by rfl) (fun bn hbn => ?_)); dsimp only [sh0_own, sh0_c, sh1_own, sh1_c, sh1_agg, shA_own, shA_c, shA_agg, shA_tup, dput, List.set, cond_true, cond_false, Nat.zero_add, Nat.add_zero, Nat.reduceAdd, splice, List.take, List.drop, List.length, List.nil_append, List.cons_append, List.append, TPoint.en, TSegment.en, TBox.en, TFeature.en, TMeet.en, TPlace.en, TCover.en, TLabel.en, TPiece.en, TLevel.en, TChart.en, TReason.en, TEdit.en, TEntry.en, TEdition.en, TListing.en, TAtlas.en, TEvent.en, TWindow.en])) <;> (try dsimp only))
 all_goals exact Fin.r1 [0] rfl (RV.tmp (by rfl)) ⟨rfl, by first | rfl | (rw [hbn (by assumption)] <;> rfl)⟩

theorem frAb (l : List TPlace) (hp : PlOk l) : VCalls Tryz.prog 211 [.ro 4 (l.map TPlace.en)] (fun r M => r = .own 0 0 ∧ M = [some ⟨187, 4, 0, false, (srtA l).map TPlace.en⟩]) := by
 refine VB Tryz.func211 8 (fun E hE => ?_)
 have hclo : Clo (.ro 4 (l.map TPlace.en)) := clo_list TPlace.clo_en
 have hpl := hp.len
 have hl1 : l.length ≤ 1048576 := by omega
 repeat' ((first
  | (refine iAL ?_; first | refine AL.any ?_ | refine AL.any (h := POp.O Tryz.func278 (hc := clonePlace _ (by assumption))) ?_ | refine AL.any (h := POp.H [0] Tryz.func279 (hc := ssfP l (by assumption))) ?_ | refine AL.nil ?_)
  | (refine iAW ?_; (refine AW.c0 ?_; constructor))) <;> (try dsimp only))
 all_goals exact Fin.r1 [0] rfl (RV.tmp (by rfl)) ⟨rfl, rfl⟩

theorem frAb' (l : List TPlace) (hp : PlOk l) : VCalls Tryz.prog 211 [.ro 4 (l.map TPlace.en)] (fun r M => r = .ro 4 ((srtA l).map TPlace.en) ∧ M = []) := VCalls.frz (frAb l hp) vwlT
theorem kept_s (l : List TPlace) (far : Int) (hp : PlOk l) (hfar : inr far 0 200 = true) : VCalls Tryz.prog 203 [.ro 4 (l.map TPlace.en), I far] (fun r M => r = .ro 4 ((kept (srtA l) far).map TPlace.en) ∧ M = []) := by
 refine VB Tryz.func203 90 (fun E hE => ?_)
 have a1 := True.intro
 have hpl := hp.len
 have hclo : Clo (.ro 4 (l.map TPlace.en)) := clo_list TPlace.clo_en
 repeat' ((first
  | (refine iAL ?_; first | refine AL.any ?_ | refine AL.F ?_ | refine AL.T ?_ | refine AL.T (h := POp.k Tryz.func227 (hc := above_s x y)) ?_ | refine AL.nil ?_)
  | ((with_reducible show DL ..); first | refine DL.any ?_ | refine DL.F ?_ | refine DL.T ?_ | refine DL.T (h := POp.k Tryz.func228 (hc := far_s y.at_ x.at_ (by assumption) (by assumption))) ?_ | refine DL.nil ?_)
  | ((with_reducible show DLR ..); first | refine DLR.any ?_ | refine DLR.row rfl (fun Y => RowRun.empty (by rfl) (by rfl) (by first | exact rwk22 | exact rwk23 | exact rwk24 | exact rwk31 | exact rwk32 | exact rwk33 | exact rwk45 | exact rwk63 | exact rwk79 | exact rwk183)) rfl rfl ?_ | refine DLR.append rfl (by rfl) (by first | exact rwk22 | exact rwk23 | exact rwk24 | exact rwk31 | exact rwk32 | exact rwk33 | exact rwk45 | exact rwk63 | exact rwk79 | exact rwk183) (by rfl) rfl rfl rfl rfl rfl rfl (by rfl) (by first | (simp <;> omega) | omega) (by first | (simp [maxLen] <;> omega) | (simp_all [maxLen] <;> omega)) ?_ | refine DLR.nil ?_)
  | (refine iAW ?_; first | (refine AW.freeze /-Ret-/ (t := 5) (id := 0) rfl rfl rfl rfl clo_rows_nil ?_; try dsimp only [dput, List.set, cond_true, cond_false, Nat.zero_add, Nat.add_zero, Nat.reduceAdd, splice, List.take, List.drop, List.length, List.nil_append, List.cons_append, List.append, TPoint.en, TSegment.en, TBox.en, TFeature.en, TMeet.en, TPlace.en, TCover.en, TLabel.en, TPiece.en, TLevel.en, TChart.en, TReason.en, TEdit.en, TEntry.en, TEdition.en, TListing.en, TAtlas.en, TEvent.en, TWindow.en]) | (refine AW.freeze /-Ret-/ (t := 5) (id := 1) rfl rfl rfl rfl hcr ?_; try dsimp only [dput, List.set, cond_true, cond_false, Nat.zero_add, Nat.add_zero, Nat.reduceAdd, splice, List.take, List.drop, List.length, List.nil_append, List.cons_append, List.append, TPoint.en, TSegment.en, TBox.en, TFeature.en, TMeet.en, TPlace.en, TCover.en, TLabel.en, TPiece.en, TLevel.en, TChart.en, TReason.en, TEdit.en, TEntry.en, TEdition.en, TListing.en, TAtlas.en, TEvent.en, TWindow.en]) | (refine AW.freezeRet (t := 4) (id := 1) rfl rfl rfl rfl (clo_rows TPlace.clo_en) ?_; (try simp only [List.take_length]); try dsimp only [dput, List.set, cond_true, cond_false, Nat.zero_add, Nat.add_zero, Nat.reduceAdd, splice, List.take, List.drop, List.length, List.nil_append, List.cons_append, List.append, TPoint.en, TSegment.en, TBox.en, TFeature.en, TMeet.en, TPlace.en, TCover.en, TLabel.en, TPiece.en, TLevel.en, TChart.en, TReason.en, TEdit.en, TEntry.en, TEdition.en, TListing.en, TAtlas.en, TEvent.en, TWindow.en]) | (refine AW.c0 ?_; constructor) | refine AW.dr (id := 6) 12 ?_ | refine AW.drawnR (id := 8) 14 1 [some 0, none, none, none, some 0, none, none, none, none, none, some 0, none, none, none] [some Rsv] rfl (by kernel_rfl) (by kernel_rfl) (by kernel_rfl) (by rfl) ?_ | refine AW.dr (id := 17) 16 ?_ | refine AW.cT ?_ | refine AW.cF ?_)
  | ((with_reducible show DL ..); refine DL.T (h := POp.quiet (QOp.fld_ref (off := 1) (n := 1) (by rfl) (by rfl) (by rfl) (by rfl) (by kernel_rfl))) ?_)
  | ((with_reducible show DLR ..); first | refine DLR.any (h := fun Y => POp.quiet (QOp.cut_h (by rfl) slk183 (by rfl) (by rfl) (by first | decide | omega) (by first | assumption | omega) (by assumption))) ?_ | refine DLR.any (h := fun Y => POp.quiet (QOp.cut_l (by rfl) slk183 (by rfl) (by rfl) (by first | decide | omega) (by first | assumption | omega) (by assumption))) ?_ | refine DLR.any (h := fun Y => POp.lit0 (RowRun.literal (by rfl) rwk183 (by rfl) (by rfl) (by rfl) (by rfl) (by rfl) (by rfl)) (clo_rows_b rfl)) ?_)
  | (
 have _ := a1
 clear a1
 refine AW.loopD hE (fun s_ : Nat => (.ro 4 (l.map TPlace.en) :: I far :: .any :: .any :: .any :: .ro 4 ((srtTo l s_).map TPlace.en) :: I (s_ : Int) :: .any :: .any :: .any :: .any :: .any :: .any :: .any :: .any :: .any :: .any :: .any :: .any :: .any :: .any :: .any :: .any :: .any :: .any :: .any :: .any :: .any :: .any :: .any :: .any :: .any :: .any :: .any :: .any :: .any :: .any :: .any :: .any :: .any :: .any :: .any :: .any :: .any :: .any :: .any :: .any :: .any :: .any :: .any :: .any :: .any :: .any :: .any :: .any :: .any :: .any :: .any :: .any :: .any :: .any :: .any :: .any :: .any :: .any :: .any :: .any :: .any :: .any :: .any :: .any :: .any :: .any :: .any :: .any :: .any :: .any :: .any :: .any :: .any :: .any :: .any :: .any :: .any :: .any :: .any :: .any :: .any :: .any :: .any :: .any :: .any :: [])) (fun s_ => [none]) (fun s_ => l.length - s_) (fun s_ => s_ ≤ l.length) 0 (Nat.zero_le _) ?_ (by first | rfl | (rfl)) ?_
 (focus ((refine wkj ?_; repeat' with_reducible constructor) <;> first | rfl | (simp [srtTo])))
 rintro i hJ
 try dsimp only at hJ
 try dsimp only
 by_cases hlt : i < l.length
 case' pos =>
  have a2 := True.intro
  obtain ⟨x, hx⟩ := getD_some (l := l) (i := i) hlt
  have hg := map_get (f := TPlace.en) hx
  have ht := lt_true (f := TPlace.en) hlt
  have hn := next_ix hlt (by omega)
  have hxm := List.mem_of_getElem? hx
  have hxo := (hp.ok x hxm).2.1
  have hcle : Clo (.agg x.en) := Clo.agg x.clo_en
  have hsl := srtTo_len (l := l) (i := i) (by omega)
  have hclS : Clo (.ro 4 ((srtTo l i).map TPlace.en)) := clo_list TPlace.clo_en
 case' neg =>
  have a3 := True.intro
  have ht := lt_false (f := TPlace.en) hlt
  obtain rfl : i = l.length := by omega
  rw [srtTo_all]
  have hsl := srtA_len l
  have hclS : Clo (.ro 4 ((srtA l).map TPlace.en)) := clo_list TPlace.clo_en)
  | (
 have _ := a2
 clear a2
 refine AW.loopD hE (fun s_ : Nat => (.ro 4 (l.map TPlace.en) :: I far :: .any :: .any :: .any :: .ro 4 ((srtTo l i).map TPlace.en) :: I (i : Int) :: I (s_ : Int) :: .any :: .any :: .any :: .any :: .any :: .any :: .any :: .any :: .any :: .any :: .any :: .any :: .any :: .any :: .any :: .any :: .any :: .any :: .any :: .any :: .any :: .any :: .any :: .any :: .any :: .any :: .any :: .any :: .any :: .any :: .any :: .any :: .any :: .any :: .any :: .any :: .any :: .any :: .any :: .any :: .any :: .any :: .any :: .any :: .any :: .any :: .any :: .any :: .any :: .any :: .any :: .any :: .any :: .any :: .any :: .any :: .any :: .any :: .any :: .any :: .any :: .any :: .any :: .any :: .any :: .any :: .any :: .any :: .any :: .any :: .any :: .any :: .any :: .any :: .any :: .any :: .any :: .any :: .any :: .any :: .any :: .any :: .any :: .any :: [])) (fun s_ => [none]) (fun s_ => s_ - posR (fun y => above x y) (srtTo l i)) (fun s_ => posR (fun y => above x y) (srtTo l i) ≤ s_ ∧ s_ ≤ (srtTo l i).length) (srtTo l i).length ⟨posR_le _ _, Nat.le_refl _⟩ ?_ (by first | rfl | (rfl)) ?_
 (focus (exact wkI))
 rintro k hJ
 try dsimp only at hJ
 try dsimp only
 by_cases hlt : posR (fun y => above x y) (srtTo l i) < k
 case' pos =>
  have p2 := True.intro
  obtain ⟨y, hy⟩ := getD_some (l := (srtTo l i)) (i := k - 1) (by omega)
  obtain ⟨z1, z2, z3⟩ := ix_dn (k := k) (by omega) (by omega)
  have hgy : ((srtTo l i).map TPlace.en)[(IntKind.i64.wrap ((k : Int) - 1)).toNat]? = some y.en := by rw [z3, List.getElem?_map, hy]; rfl
  have hk : decide ((k : Int) > 0) = true := by simp; omega
  have hpy := posR_ge (p := (fun y => above x y)) (l := (srtTo l i)) (i := k - 1) (by omega) hy
  try dsimp only at hpy
 case' neg =>
  have q2 := True.intro
  have ek : posR (fun y => above x y) (srtTo l i) = k := by omega
  have hK1 : ((k : Nat) : Int) ≤ (((srtTo l i).map TPlace.en).length : Int) := by rw [List.length_map]; omega
  have hd0 : ((srtTo l i).map TPlace.en).drop ((k : Nat) : Int).toNat = ((srtTo l i).drop k).map TPlace.en := by rw [Int.toNat_natCast, List.map_drop]
  have ht0 : ((srtTo l i).map TPlace.en).take ((k : Nat) : Int).toNat = ((srtTo l i).take k).map TPlace.en := by rw [Int.toNat_natCast, List.map_take]
  have hc1 : Clo (.ro 4 (((srtTo l i).take k).map TPlace.en)) := clo_list TPlace.clo_en
  have hc2 : Clo (.ro 4 (((srtTo l i).drop k).map TPlace.en)) := clo_list TPlace.clo_en
  have hl1 : ((srtTo l i).take k).length ≤ 1048576 := by rw [List.length_take]; omega
  have hl2 : ((srtTo l i).drop k).length ≤ 1048576 := by rw [List.length_drop]; omega
  have hap : (srtTo l (i + 1)).map TPlace.en = ((srtTo l i).take k).map TPlace.en ++ [[I x.id, I x.at_.x, I x.at_.y, I x.rank]] ++ ((srtTo l i).drop k).map TPlace.en := by rw [srtTo_succ hx, insA_map, ek]; rfl
  have hclT : Clo (.ro 4 ((srtTo l (i + 1)).map TPlace.en)) := clo_list TPlace.clo_en
  have hcr : ∀ r ∈ ((srtTo l i).take k).map TPlace.en ++ [[I x.id, I x.at_.x, I x.at_.y, I x.rank]] ++ ((srtTo l i).drop k).map TPlace.en, ∀ y ∈ r, Clo y := hap ▸ clo_rows TPlace.clo_en
  rcases Nat.eq_zero_or_pos k with h0 | h0
  case' inl =>
   subst h0
   have hk : decide (((0 : Nat) : Int) > 0) = false := by decide
  case' inr =>
   obtain ⟨y, hy⟩ := getD_some (l := (srtTo l i)) (i := k - 1) (by omega)
   obtain ⟨z1, z2, z3⟩ := ix_dn (k := k) (by omega) (by omega)
   have hgy : ((srtTo l i).map TPlace.en)[(IntKind.i64.wrap ((k : Int) - 1)).toNat]? = some y.en := by rw [z3, List.getElem?_map, hy]; rfl
   have hk : decide ((k : Int) > 0) = true := by simp; omega
   have hpy := posR_lt (p := (fun y => above x y)) (l := (srtTo l i)) (y := y) (by omega) (by rw [ek]; exact hy)
   try dsimp only at hpy)
  | (
 have _ := a3
 clear a3
 refine AW.loopD hE (fun s_ : Nat => (.any :: I far :: .any :: .any :: .any :: .ro 4 ((srtA l).map TPlace.en) :: .any :: .any :: .own 1 (keptTo (srtA l) far s_).length :: I (s_ : Int) :: .any :: .any :: .any :: .any :: .any :: .any :: .any :: .any :: .any :: .any :: .any :: .any :: .any :: .any :: .any :: .any :: .any :: .any :: .any :: .any :: .any :: .any :: .any :: .any :: .any :: .any :: .any :: .any :: .any :: .any :: .any :: .any :: .any :: .any :: .any :: .any :: .any :: .any :: .any :: .any :: .any :: .any :: .any :: .any :: .any :: .any :: .any :: .any :: .any :: .any :: .any :: .any :: .any :: .any :: .any :: .any :: .any :: .any :: .any :: .any :: .any :: .any :: .any :: .any :: .any :: .any :: .any :: .any :: .any :: .any :: .any :: .any :: .any :: .any :: .any :: .any :: .any :: .any :: .any :: .any :: .any :: .any :: [])) (fun s_ => [none, some ⟨187, 4, (keptTo (srtA l) far s_).length, false, (keptTo (srtA l) far s_).map TPlace.en⟩]) (fun s_ => l.length - s_) (fun s_ => s_ ≤ l.length) 0 (Nat.zero_le _) ?_ (by first | rfl | (rfl)) ?_
 (focus ((refine wkj ?_; repeat' with_reducible constructor) <;> first | rfl | (simp [keptTo])))
 rintro j hJ
 try dsimp only at hJ
 try dsimp only
 by_cases hlt : j < l.length
 case' pos =>
  have a4 := True.intro
  obtain ⟨x, hx⟩ := getD_some (l := srtA l) (i := j) (by omega)
  have hg := map_get (f := TPlace.en) hx
  have ht : decide ((j : Int) < (((srtA l).map TPlace.en).length : Int)) = true := by simp; omega
  have hn := next_ix hlt (by omega)
  have hxm := (srtA_perm l).mem_iff.1 (List.mem_of_getElem? hx)
  have hxo := (hp.ok x hxm).2.1
  have hcle : Clo (.agg x.en) := Clo.agg x.clo_en
  have hkl := keptTo_len (srtA l) far j
 case' neg =>
  have q3 := True.intro
  have ht : decide ((j : Int) < (((srtA l).map TPlace.en).length : Int)) = false := by simp; omega
  obtain rfl : j = l.length := by omega
  have hka : keptTo (srtA l) far l.length = kept (srtA l) far := by rw [← srtA_len l, keptTo_all])
  | (
 have _ := a4
 clear a4
 refine AW.loopD hE (fun s_ : Nat => (.any :: I far :: .any :: .any :: .any :: .ro 4 ((srtA l).map TPlace.en) :: .any :: .any :: .own 1 (keptTo (srtA l) far j).length :: I (j : Int) :: B (((keptTo (srtA l) far j).take s_).all (farOk far x)) :: I (s_ : Int) :: .any :: .any :: .any :: .any :: .any :: .any :: .any :: .any :: .any :: .any :: .any :: .any :: .any :: .any :: .any :: .any :: .any :: .any :: .any :: .any :: .any :: .any :: .any :: .any :: .any :: .any :: .any :: .any :: .any :: .any :: .any :: .any :: .any :: .any :: .any :: .any :: .any :: .any :: .any :: .any :: .any :: .any :: .any :: .any :: .any :: .any :: .any :: .any :: .any :: .any :: .any :: .any :: .any :: .any :: .any :: .any :: .any :: .any :: .any :: .any :: .any :: .any :: .any :: .any :: .any :: .any :: .any :: .any :: .any :: .any :: .any :: .any :: .any :: .any :: .any :: .any :: .any :: .any :: .any :: .any :: [])) (fun s_ => [none, some ⟨187, 4, (keptTo (srtA l) far j).length, false, (keptTo (srtA l) far j).map TPlace.en⟩]) (fun s_ => (keptTo (srtA l) far j).length - s_) (fun s_ => s_ ≤ (keptTo (srtA l) far j).length) 0 (Nat.zero_le _) ?_ (by first | rfl | (rfl)) ?_
 (focus (exact wkI))
 rintro k hJ
 try dsimp only at hJ
 try dsimp only
 by_cases hlt : k < (keptTo (srtA l) far j).length
 case' pos =>
  have p4 := True.intro
  obtain ⟨y, hy⟩ := getD_some (l := (keptTo (srtA l) far j)) (i := k) hlt
  have hgy : ((keptTo (srtA l) far j).map TPlace.en)[((k : Int)).toNat]? = some y.en := by rw [Int.toNat_natCast, List.getElem?_map, hy]; rfl
  have hty := lt_true (f := TPlace.en) hlt
  have hny := next_ix hlt (by omega)
  have hyo := (hp.ok y ((srtA_perm l).mem_iff.1 (keptTo_mem (List.mem_of_getElem? hy)))).2.1
  have hky : decide (far2 y.at_ x.at_ ≥ IntKind.i64.wrap (far * far)) = farOk far x y := by rw [(far_sq hfar).1]; rfl
  have hcly : Clo (.agg y.en) := Clo.agg y.clo_en
  have hixk : (k : Int) < (((keptTo (srtA l) far j).map TPlace.en).length : Int) := by rw [List.length_map]; omega
  rcases Bool.eq_false_or_eq_true (((keptTo (srtA l) far j).take k).all (farOk far x)) with hb | hb
  case' inl => have hat := (all_take_y (p := farOk far x) hy hb).trans hky.symm
  case' inr => have hat := all_take_n (p := farOk far x) hy hb
 case' neg =>
  have q4 := True.intro
  have hty := lt_false (f := TPlace.en) hlt
  obtain rfl : k = (keptTo (srtA l) far j).length := by omega
  rw [List.take_length]
  rcases Bool.eq_false_or_eq_true ((keptTo (srtA l) far j).all (farOk far x)) with hb | hb
  case' inl => obtain ⟨hm, hm2⟩ := keptTo_y (far := far) hx hb
  case' inr => obtain ⟨hm, hm2⟩ := keptTo_n (far := far) hx hb)) <;> (try dsimp only))
 all_goals first
  | (have _ := p2; refine ⟨k - 1, _, ⟨by omega, by omega⟩, by omega, ?_, rfl, ?_, ?_⟩; (focus ((refine wkj ?_; repeat' with_reducible constructor) <;> first | rfl | (rw [z2]; done))); (focus (exact fitsA)); (focus (exact fitsM_none (FitsM.nil _))))
  | (have _ := q2; refine ⟨i + 1, _, (by assumption), by omega, ?_, rfl, ?_, ?_⟩; (focus ((refine wkj ?_; repeat' with_reducible constructor) <;> first | rfl | (rw [hap] <;> rfl) | (rw [hn]; done))); (focus (exact fitsA)); (focus (exact fitsM_none (FitsM.nil _))))
  | (have _ := p4; refine ⟨k + 1, _, hlt, by omega, ?_, rfl, ?_, ?_⟩; (focus (exact wkH)); (focus (exact fitsA)); (focus (exact fitsM_none (fitsM_cons (clo_rows TPlace.clo_en) (FitsM.nil _)))))
  | (have _ := q4; refine ⟨j + 1, _, (by assumption), by omega, ?_, by rw [hm, hm2] <;> rfl, ?_, ?_⟩; (focus (exact wkH)); (focus (exact fitsA)); (focus (exact fitsM_none (fitsM_cons (clo_rows TPlace.clo_en) (FitsM.nil _)))))
  | (have _ := q3; exact Fin.one rfl (RV.tmp (by rfl)) (clo_list TPlace.clo_en) ⟨by rw [hka], rfl⟩)

theorem far_i' (x y : TPlace) (hx : isp x.at_.x x.at_.y = true) (hy : isp y.at_.x y.at_.y = true) : VCalls Tryz.prog 162 [.agg x.at_.en, .agg y.at_.en] (fun r M => r = I (far2 y.at_ x.at_) ∧ M = []) := far2_comm x.at_ y.at_ ▸ far_i x.at_ y.at_ hx hy
theorem kept_i (l : List TPlace) (far : Int) (hp : PlOk l) (hfar : inr far 0 200 = true) : VCalls Tryz.prog 231 [.ro 4 (l.map TPlace.en), I far] (fun r M => r = .own 0 0 ∧ M = [some ⟨187, 4, 0, false, (kept (srtA l) far).map TPlace.en⟩]) := by
 refine VB Tryz.func231 52 (fun E hE => ?_)
 have a3 := True.intro
 have hclS : Clo (.ro 4 ((srtA l).map TPlace.en)) := clo_list TPlace.clo_en
 have hclo : Clo (.ro 4 (l.map TPlace.en)) := clo_list TPlace.clo_en
 have hpl := hp.len
 have hsl := srtA_len l
 repeat' ((first
  | (refine iAL ?_; first | refine AL.any ?_ | refine AL.any (h := POp.k Tryz.func211 (hc := frAb' _ (by assumption))) ?_ | refine AL.any (h := POp.k Tryz.func288 (hc := arePl_i _ (by assumption))) ?_ | refine AL.F ?_ | refine AL.T ?_ | refine AL.T (h := POp.k Tryz.func145 (hc := inr_v _ _ _)) ?_ | refine AL.T (h := POp.k Tryz.func162 (hc := far_i' x y (by assumption) (by assumption))) ?_ | refine AL.nil ?_)
  | (refine iAW ?_; first | (refine AW.c0 ?_; constructor) | refine AW.cT ?_ | refine AW.cF ?_)
  | (
 have _ := a3
 clear a3
 refine AW.loopD hE (fun s_ : Nat => [.any, I far, .any, .any, .any, .own 0 (keptTo (srtA l) far s_).length, .any, .any, .any, .any, .any, .any, .any, .any, .any, .any, .any, .any, .any, .any, .any, .any, .ro 4 ((srtA l).map TPlace.en), I (((srtA l).map TPlace.en).length : Int), I (s_ : Int), .any, .any, .any, .any, .any, .any, .any, .any, .any, .any, .any, .any, .any, .any, .any, .any, .any, .any, .any, .any, .any, .any, .any, .any, .any, .any, .any, .any, .any]) (fun s_ => [some ⟨187, 4, (keptTo (srtA l) far s_).length, false, (keptTo (srtA l) far s_).map TPlace.en⟩]) (fun s_ => l.length - s_) (fun s_ => s_ ≤ l.length) 0 (Nat.zero_le _) ?_ (by first | rfl | (rfl)) ?_
 (focus ((refine wkj ?_; repeat' with_reducible constructor) <;> first | rfl | (simp [keptTo])))
 rintro j hJ
 try dsimp only at hJ
 try dsimp only
 by_cases hlt : j < l.length
 case' pos =>
  have a4 := True.intro
  obtain ⟨x, hx⟩ := getD_some (l := srtA l) (i := j) (by omega)
  have hg := map_get (f := TPlace.en) hx
  have ht : decide ((j : Int) < (((srtA l).map TPlace.en).length : Int)) = true := by simp; omega
  have hn := next_ix hlt (by omega)
  have hxm := (srtA_perm l).mem_iff.1 (List.mem_of_getElem? hx)
  have hxo := (hp.ok x hxm).2.1
  have hcle : Clo (.agg x.en) := Clo.agg x.clo_en
  have hkl := keptTo_len (srtA l) far j
 case' neg =>
  have q3 := True.intro
  have ht : decide ((j : Int) < (((srtA l).map TPlace.en).length : Int)) = false := by simp; omega
  obtain rfl : j = l.length := by omega
  have hka : keptTo (srtA l) far l.length = kept (srtA l) far := by rw [← srtA_len l, keptTo_all])
  | (
 have _ := a4
 clear a4
 refine AW.loopD hE (fun s_ : Nat => [.any, I far, .any, .any, .any, .own 0 (keptTo (srtA l) far j).length, .any, .ref 1 0 4 0 0, B (((keptTo (srtA l) far j).take s_).all (farOk far x)), .any, .any, .any, .any, .any, .any, .any, .any, .any, .any, .any, .any, .any, .ro 4 ((srtA l).map TPlace.en), I (((srtA l).map TPlace.en).length : Int), I (j : Int), .any, .any, .any, .own 0 (keptTo (srtA l) far j).length, I (((keptTo (srtA l) far j).map TPlace.en).length : Int), I (s_ : Int), .any, .any, .any, .any, .any, .any, .any, .any, .any, .any, .any, .any, .any, .any, .any, .any, .any, .any, .any, .any, .any, .any, .any]) (fun s_ => [some ⟨187, 4, (keptTo (srtA l) far j).length, false, (keptTo (srtA l) far j).map TPlace.en⟩, some ⟨187, 4, 0, true, [x.en]⟩]) (fun s_ => (keptTo (srtA l) far j).length - s_) (fun s_ => s_ ≤ (keptTo (srtA l) far j).length) 0 (Nat.zero_le _) ?_ (by first | rfl | (rfl)) ?_
 (focus (exact wkI))
 rintro k hJ
 try dsimp only at hJ
 try dsimp only
 by_cases hlt : k < (keptTo (srtA l) far j).length
 case' pos =>
  have p4 := True.intro
  obtain ⟨y, hy⟩ := getD_some (l := (keptTo (srtA l) far j)) (i := k) hlt
  have hgy : ((keptTo (srtA l) far j).map TPlace.en)[((k : Int)).toNat]? = some y.en := by rw [Int.toNat_natCast, List.getElem?_map, hy]; rfl
  have hty := lt_true (f := TPlace.en) hlt
  have hny := next_ix hlt (by omega)
  have hyo := (hp.ok y ((srtA_perm l).mem_iff.1 (keptTo_mem (List.mem_of_getElem? hy)))).2.1
  have hky : decide (far2 y.at_ x.at_ ≥ IntKind.i64.wrap (far * far)) = farOk far x y := by rw [(far_sq hfar).1]; rfl
  have hcly : Clo (.agg y.en) := Clo.agg y.clo_en
  have hixk : (k : Int) < (((keptTo (srtA l) far j).map TPlace.en).length : Int) := by rw [List.length_map]; omega
  rcases Bool.eq_false_or_eq_true (((keptTo (srtA l) far j).take k).all (farOk far x)) with hb | hb
  case' inl => have hat := (all_take_y (p := farOk far x) hy hb).trans hky.symm
  case' inr => have hat := all_take_n (p := farOk far x) hy hb
 case' neg =>
  have q4 := True.intro
  have hty := lt_false (f := TPlace.en) hlt
  obtain rfl : k = (keptTo (srtA l) far j).length := by omega
  rw [List.take_length]
  rcases Bool.eq_false_or_eq_true ((keptTo (srtA l) far j).all (farOk far x)) with hb | hb
  case' inl => obtain ⟨hm, hm2⟩ := keptTo_y (far := far) hx hb
  case' inr => obtain ⟨hm, hm2⟩ := keptTo_n (far := far) hx hb)) <;> (try dsimp only))
 all_goals first
  | (have _ := p4; refine ⟨k + 1, _, hlt, by omega, ?_, rfl, ?_, ?_⟩; (focus (exact wkH)); (focus (exact fitsA)); (focus (exact fitsM_cons (clo_rows TPlace.clo_en) (fitsM_cons (clo_one x.clo_en) (FitsM.nil _)))))
  | (have _ := q4; refine ⟨j + 1, _, (by assumption), by omega, ?_, by rw [hm, hm2] <;> rfl, ?_, ?_⟩; (focus (exact wkH)); (focus (exact fitsA)); (focus (exact fitsM_cons (clo_rows TPlace.clo_en) (FitsM.nil _))))
  | (have _ := q3; exact Fin.r1 [0] rfl (RV.tmp (by rfl)) ⟨rfl, by rw [hka] <;> rfl⟩)

theorem kept_i' (l : List TPlace) (far : Int) (hp : PlOk l) (hfar : inr far 0 200 = true) : VCalls Tryz.prog 231 [.ro 4 (l.map TPlace.en), I far] (fun r M => r = .ro 4 ((kept (srtA l) far).map TPlace.en) ∧ M = []) := VCalls.frz (kept_i l far hp hfar) vwlT
theorem thin_i (l : List TPlace) (far : Int) (hp : PlOk l) (hfar : inr far 0 200 = true) : VCalls Tryz.prog 208 [.ro 4 (l.map TPlace.en), I far] (fun r M => r = .own 0 0 ∧ M = [some ⟨3, 1, 0, false, (thinI l far).map enI⟩]) := by
 refine VB Tryz.func208 24 (fun E hE => ?_)
 have hclo : Clo (.ro 4 (l.map TPlace.en)) := clo_list TPlace.clo_en
 have hpl := hp.len
 have hkl := thin_len l far
 have hclK : Clo (.ro 4 (((kept (srtA l) far)).map TPlace.en)) := clo_list TPlace.clo_en
 repeat' ((first
  | (refine iAL ?_; first | refine AL.any ?_ | refine AL.any (h := POp.H [0] Tryz.func62 (hc := sortI ((kept (srtA l) far).map (·.id)) (by rw [List.length_map]; omega))) ?_ | refine AL.any (h := POp.k Tryz.func231 (hc := kept_i' _ _ (by assumption) (by assumption))) ?_ | refine AL.nil ?_)
  | (refine iAW ?_; first | (refine AW.c0 ?_; constructor) | refine AW.cT ?_ | refine AW.cF ?_)
  | (
 refine AW.loopD hE (fun i : Nat => [.any, .any, .any, .any, .any, .own 0 i, .any, .any, .any, .any, .any, .ro 4 (((kept (srtA l) far)).map TPlace.en), I (((kept (srtA l) far).map TPlace.en).length : Int), I (i : Int), .any, .any, .any, .any, .any, .any, .any, .any, .any, .any, .any, .any]) (fun i => [some ⟨3, 1, i, false, (((kept (srtA l) far).map (·.id)).take i).map enI⟩]) (fun i => (kept (srtA l) far).length - i) (fun i => i ≤ (kept (srtA l) far).length) 0 (by simp) ?_ (by first | rfl | (simp [fil_zero]; done)) ?_
 (focus (exact wkI))
 intro i hi
 by_cases hlt : i < (kept (srtA l) far).length
 case' pos =>
  have hP := True.intro
  obtain ⟨x, hx⟩ : ∃ x, (kept (srtA l) far)[i]? = some x := ⟨_, List.getElem?_eq_getElem hlt⟩
  have hg := map_get (f := TPlace.en) hx
  have ht := lt_true (f := TPlace.en) hlt
  have hn := next_ix hlt (by omega)
  have hid : ((kept (srtA l) far).map (·.id))[i]? = some x.id := by rw [List.getElem?_map, hx]; rfl
  have hm : (((kept (srtA l) far).map (·.id)).take (i + 1)).map enI = (((kept (srtA l) far).map (·.id)).take i).map enI ++ [[I x.id]] := by rw [take_succ_of hid, List.map_append]; rfl
 case' neg =>
  have hQ := True.intro
  have ht := lt_false (f := TPlace.en) hlt
  have e : i = (kept (srtA l) far).length := by omega
  subst e
  try rw [List.take_length]
  have htk : ((kept (srtA l) far).map (·.id)).take (kept (srtA l) far).length = ((kept (srtA l) far).map (·.id)) := by rw [← List.length_map (f := fun x : TPlace => x.id), List.take_length]
  rw [htk])) <;> (try dsimp only))
 all_goals first
  | (have _ := hP; (refine ⟨i + 1, _, hlt, by omega, ?_, by rw [hm] <;> rfl, ?_, ?_⟩; (focus (exact wkH)); (focus (exact fitsA)); (focus (exact fits_row (clo_rows clo_enI)))))
  | (have _ := hQ; exact Fin.r1 [0] rfl (RV.tmp (by rfl)) ⟨rfl, by unfold thinI; rw [← merge_put (thin_nodup hp far)] <;> rfl⟩)

theorem thin_s (l : List TPlace) (far : Int) (hp : PlOk l) (hfar : inr far 0 200 = true) : VCalls Tryz.prog 200 [.ro 4 (l.map TPlace.en), I far] (fun r M => r = .ro 1 ((thinI l far).map enI) ∧ M = []) := by
 refine VB Tryz.func200 33 (fun E hE => ?_)
 have hclo : Clo (.ro 4 (l.map TPlace.en)) := clo_list TPlace.clo_en
 have hpl := hp.len
 have hkl := thin_len l far
 have hclK : Clo (.ro 4 (((kept (srtA l) far)).map TPlace.en)) := clo_list TPlace.clo_en
 repeat' ((first
  | (refine iAL ?_; first | refine AL.any (h := POp.lit0 (RowRun.empty (by rfl) (by rfl) rwk56) clo_rows_nil) ?_ | refine AL.any ?_ | refine AL.any (h := POp.k Tryz.func54 (hc := put14_s' (putIs [] (((kept (srtA l) far).map (·.id)).take i)) x.id (by omega))) ?_ | refine AL.any (h := POp.k Tryz.func203 (hc := kept_s _ _ (by assumption) (by assumption))) ?_ | refine AL.any (h := POp.k Tryz.func268 (hc := arePl_s _ (by assumption))) ?_ | refine AL.T ?_ | refine AL.T (h := POp.k Tryz.func96 (hc := inr_s _ _ _)) ?_ | refine AL.nil ?_)
  | (refine iAW ?_; first | (refine AW.c0 ?_; constructor) | refine AW.cT ?_ | refine AW.cF ?_)
  | (
 refine AW.loopD hE (fun i : Nat => [.any, .any, .any, .any, .any, .ro 1 ((putIs [] (((kept (srtA l) far).map (·.id)).take i)).map enI), .ro 4 (((kept (srtA l) far)).map TPlace.en), I (i : Int), .any, .any, .any, .any, .any, .any, .any, .any, .any, .any, .any, .any, .any, .any, .any, .any, .any, .any, .any, .any, .any, .any, .any, .any, .any, .any, .any]) (fun i => []) (fun i => (kept (srtA l) far).length - i) (fun i => i ≤ (kept (srtA l) far).length) 0 (by simp) ?_ (by first | rfl | (simp [fil_zero]; done)) ?_
 (focus (exact wkI))
 intro i hi
 by_cases hlt : i < (kept (srtA l) far).length
 case' pos =>
  have hP := True.intro
  obtain ⟨x, hx⟩ : ∃ x, (kept (srtA l) far)[i]? = some x := ⟨_, List.getElem?_eq_getElem hlt⟩
  have hg := map_get (f := TPlace.en) hx
  have ht := lt_true (f := TPlace.en) hlt
  have hn := next_ix hlt (by omega)
  have hid : ((kept (srtA l) far).map (·.id))[i]? = some x.id := by rw [List.getElem?_map, hx]; rfl
  have hm : (((kept (srtA l) far).map (·.id)).take (i + 1)).map enI = (((kept (srtA l) far).map (·.id)).take i).map enI ++ [[I x.id]] := by rw [take_succ_of hid, List.map_append]; rfl
  have hps := putIs_take1 hid
  have hpl2 := putIs_len (((kept (srtA l) far).map (·.id)).take i) []
  have htl : (((kept (srtA l) far).map (·.id)).take i).length ≤ i := by rw [List.length_take]; omega
  have hpl3 : (putIs [] (((kept (srtA l) far).map (·.id)).take i)).length ≤ 1048576 := by simp only [List.length_nil] at hpl2; omega
  have hclA : Clo (.ro 1 ((putIs [] (((kept (srtA l) far).map (·.id)).take i)).map enI)) := clo_list clo_enI
  have hclB : Clo (.ro 1 ((putI (putIs [] (((kept (srtA l) far).map (·.id)).take i)) x.id).map enI)) := clo_list clo_enI
  have hclC : Clo (.ro 1 ((putIs [] (((kept (srtA l) far).map (·.id)).take (i + 1))).map enI)) := clo_list clo_enI
 case' neg =>
  have hQ := True.intro
  have ht := lt_false (f := TPlace.en) hlt
  have e : i = (kept (srtA l) far).length := by omega
  subst e
  try rw [List.take_length]
  have htk : ((kept (srtA l) far).map (·.id)).take (kept (srtA l) far).length = ((kept (srtA l) far).map (·.id)) := by rw [← List.length_map (f := fun x : TPlace => x.id), List.take_length]
  rw [htk])) <;> (try dsimp only))
 all_goals first
  | (have _ := hP; (refine ⟨i + 1, _, hlt, by omega, ?_, rfl, ?_, ?_⟩; (focus ((refine wkj ?_; repeat' with_reducible constructor) <;> (first | rfl | (rw [hn]; done) | (rw [hps]; done)))); (focus (exact fitsA)); (focus (exact FitsM.nil _))))
  | (have _ := hQ; exact Fin.one rfl (RV.tmp (by rfl)) (clo_list clo_enI) ⟨rfl, rfl⟩)

end Go.Proofs.YtpffahmmklpifaaGreat.Abs
