/- Part E of the walk over abstract states and of the functions' walks. -/
import Derived.Test.YtpffahmmklpifaaGreatWkStep
import Derived.Test.YtpffahmmklpifaaGreatBnC
import Derived.Test.YtpffahmmklpifaaGreatBnD
import Derived.Test.YtpffahmmklpifaaGreatBnA
/- The walks of features shrunk. -/
namespace Go.Proofs.YtpffahmmklpifaaGreat.Abs
open Go.Proofs Go.RowKit
set_option linter.unusedVariables false
set_option linter.unusedSimpArgs false
set_option maxRecDepth 100000
set_option maxHeartbeats 2000000
attribute [local irreducible] OpA AL AW DL DLM DLR DLS QOp POp VCalls VCallsI
theorem size_s (x : TFeature) (i : Nat) (hg : x.gd) : VCalls Tryz.prog 269 [.agg x.en, I (i : Int)] (fun r M => r = I (sizeA x i) ∧ M = []) := by
  refine VB Tryz.func269 17 (fun E hE => ?_)
  have hclP : Clo (.ro 2 (x.points.map TPoint.en)) := clo_list TPoint.clo_en
  have hcle : Clo (.agg x.en) := Clo.agg x.clo_en
  have hl := hg.1
  have hsx : x.sm := hg.1
  dsimp only [TFeature.en]
  rcases kd_cases x with h1 | ⟨h1, h2⟩ | ⟨h1, h2⟩
  repeat' ((first
    | (refine iAL ?_; first | refine AL.any ?_ | refine AL.any (h := POp.k Tryz.func303 (hc := crnA_s _ _ (by assumption))) ?_ | refine AL.any (h := POp.k Tryz.func304 (hc := crnS_s _ _ (by assumption))) ?_ | refine AL.nil ?_)
    | (refine iAW ?_; first | (refine AW.c0 ?_; constructor) | refine AW.cT ?_ | refine AW.cF ?_ | (refine AW.c2 ?_ ?_ <;> (intro h; try simp only [bT, bF] at h)))) <;> (try dsimp only))
  all_goals exact Fin.one rfl (RV.tmp (by rfl)) (clo_c _) ⟨by first | (rw [sizeA, if_pos h1]) | (rw [sizeA, if_neg (by rw [h1]; decide), if_pos h2]) | (rw [sizeA, if_neg (by rw [h1]; decide), if_neg (by rw [h2]; decide)]), rfl⟩

theorem df_s (x : TFeature) (i : Nat) (hg : x.gd) : VCalls Tryz.prog 271 [.agg x.en, I (i : Int)] (fun r M => r = .tup [.agg (dfF x i).en, B (dfOk x i)] ∧ M = []) := by
  refine VB Tryz.func271 40 (fun E hE => ?_)
  have hclP : Clo (.ro 2 (x.points.map TPoint.en)) := clo_list TPoint.clo_en
  have hcle : Clo (.agg x.en) := Clo.agg x.clo_en
  have hl := hg.1
  have hsx : x.sm := hg.1
  have hg2 : TFeature.gd ⟨x.id, x.kind, x.rank, x.name, dpL x.points i⟩ := ⟨Nat.le_trans (dpL_len _ _) hg.1, hg.2⟩
  have hg3 : TFeature.gd ⟨x.id, x.kind, x.rank, x.name, dcL x.points i⟩ := ⟨Nat.le_trans (dcL_len _ _) hg.1, hg.2⟩
  have hc2 : Clo (.ro 2 ((dpL x.points i).map TPoint.en)) := clo_list TPoint.clo_en
  have hc3 : Clo (.ro 2 ((dcL x.points i).map TPoint.en)) := clo_list TPoint.clo_en
  have hce2 : Clo (.agg (TFeature.en ⟨x.id, x.kind, x.rank, x.name, dpL x.points i⟩)) := Clo.agg (TFeature.clo_en _)
  have hce3 : Clo (.agg (TFeature.en ⟨x.id, x.kind, x.rank, x.name, dcL x.points i⟩)) := Clo.agg (TFeature.clo_en _)
  have hct2 : Clo (.tup [.ro 2 ((dpL x.points i).map TPoint.en), B (dpOk x.points i)]) := Clo.tup (clo_cons hc2 (clo_cons (clo_c _) clo_nil))
  have hct3 : Clo (.tup [.ro 2 ((dcL x.points i).map TPoint.en), B (dcOk x.points i)]) := Clo.tup (clo_cons hc3 (clo_cons (clo_c _) clo_nil))
  rcases df_cases x i with ⟨k2, ho, hdf, hok⟩ | ⟨k2, ho, hf, hdf, hok⟩ | ⟨k2, ho, hf, hdf, hok⟩ | ⟨k2, k3, ho, hdf, hok⟩ | ⟨k2, k3, ho, hf, hdf, hok⟩ | ⟨k2, k3, ho, hf, hdf, hok⟩ | ⟨k2, k3, hdf, hok⟩
  all_goals dsimp only [TFeature.en] at *
  repeat' ((first
    | (refine iAL ?_; first | refine AL.any ?_ | refine AL.any (h := POp.k Tryz.func108 (hc := cloneF_s' x hsx)) ?_ | refine AL.any (h := POp.k Tryz.func305 (hc := dp_s x.points i hl)) ?_ | refine AL.any (h := POp.k Tryz.func306 (hc := dc_s x.points i hl)) ?_ | refine AL.U ?_ | refine AL.F ?_ | refine AL.T ?_ | refine AL.T (h := POp.k Tryz.func109 (hc := by first | exact isFeat_s ⟨x.id, x.kind, x.rank, x.name, dpL x.points i⟩ hg2 | exact isFeat_s ⟨x.id, x.kind, x.rank, x.name, dcL x.points i⟩ hg3)) ?_ | refine AL.W ?_ | refine AL.W (h := fun h => by (try rw [h]); exact POp.k Tryz.func109 (hc := by first | exact isFeat_s ⟨x.id, x.kind, x.rank, x.name, dpL x.points i⟩ hg2 | exact isFeat_s ⟨x.id, x.kind, x.rank, x.name, dcL x.points i⟩ hg3)) ?_ | refine AL.nil ?_)
    | (refine iAW ?_; first | (refine AW.c0 ?_; constructor) | refine AW.cT ?_ | refine AW.cF ?_ | (refine AW.c2 ?_ ?_ <;> (intro h; try simp only [bT, bF] at h)))) <;> (try dsimp only))
  all_goals exact Fin.two rfl (RV.cell (QOp.quietA TT_ok (by rfl))) (RV.tmp (by rfl)) (Clo.tup (clo_cons (Clo.agg (by repeat' (first | exact clo_nil | refine clo_cons ?_ ?_ | exact clo_c _ | assumption))) (clo_cons (clo_c _) clo_nil))) ⟨by rw [hdf, hok] <;> rfl, rfl⟩

theorem size_i (x : TFeature) (i : Nat) (hg : x.gd) : VCalls Tryz.prog 275 [.agg x.en, I (i : Int)] (fun r M => r = I (sizeA x i) ∧ M = []) := by
  refine VB Tryz.func275 17 (fun E hE => ?_)
  have hclP : Clo (.ro 2 (x.points.map TPoint.en)) := clo_list TPoint.clo_en
  have hcle : Clo (.agg x.en) := Clo.agg x.clo_en
  have hl := hg.1
  have hsx : x.sm := hg.1
  dsimp only [TFeature.en]
  rcases kd_cases x with h1 | ⟨h1, h2⟩ | ⟨h1, h2⟩
  repeat' ((first
    | (refine iAL ?_; first | refine AL.any ?_ | refine AL.any (h := POp.k Tryz.func307 (hc := crnA_i _ _ (by assumption))) ?_ | refine AL.any (h := POp.k Tryz.func308 (hc := crnS_i _ _ (by assumption))) ?_ | refine AL.nil ?_)
    | (refine iAW ?_; first | (refine AW.c0 ?_; constructor) | refine AW.cT ?_ | refine AW.cF ?_ | (refine AW.c2 ?_ ?_ <;> (intro h; try simp only [bT, bF] at h)))) <;> (try dsimp only))
  all_goals exact Fin.one rfl (RV.tmp (by rfl)) (clo_c _) ⟨by first | (rw [sizeA, if_pos h1]) | (rw [sizeA, if_neg (by rw [h1]; decide), if_pos h2]) | (rw [sizeA, if_neg (by rw [h1]; decide), if_neg (by rw [h2]; decide)]), rfl⟩

theorem df_i (x : TFeature) (i : Nat) (hg : x.gd) : VCalls Tryz.prog 277 [.agg x.en, I (i : Int)] (fun r M => r = .tup [.agg (dfF x i).en, B (dfOk x i)] ∧ M = []) := by
  refine VB Tryz.func277 40 (fun E hE => ?_)
  have hclP : Clo (.ro 2 (x.points.map TPoint.en)) := clo_list TPoint.clo_en
  have hcle : Clo (.agg x.en) := Clo.agg x.clo_en
  have hl := hg.1
  have hsx : x.sm := hg.1
  have hg2 : TFeature.gd ⟨x.id, x.kind, x.rank, x.name, dpL x.points i⟩ := ⟨Nat.le_trans (dpL_len _ _) hg.1, hg.2⟩
  have hg3 : TFeature.gd ⟨x.id, x.kind, x.rank, x.name, dcL x.points i⟩ := ⟨Nat.le_trans (dcL_len _ _) hg.1, hg.2⟩
  have hc2 : Clo (.ro 2 ((dpL x.points i).map TPoint.en)) := clo_list TPoint.clo_en
  have hc3 : Clo (.ro 2 ((dcL x.points i).map TPoint.en)) := clo_list TPoint.clo_en
  have hce2 : Clo (.agg (TFeature.en ⟨x.id, x.kind, x.rank, x.name, dpL x.points i⟩)) := Clo.agg (TFeature.clo_en _)
  have hce3 : Clo (.agg (TFeature.en ⟨x.id, x.kind, x.rank, x.name, dcL x.points i⟩)) := Clo.agg (TFeature.clo_en _)
  have hct2 : Clo (.tup [.ro 2 ((dpL x.points i).map TPoint.en), B (dpOk x.points i)]) := Clo.tup (clo_cons hc2 (clo_cons (clo_c _) clo_nil))
  have hct3 : Clo (.tup [.ro 2 ((dcL x.points i).map TPoint.en), B (dcOk x.points i)]) := Clo.tup (clo_cons hc3 (clo_cons (clo_c _) clo_nil))
  rcases df_cases x i with ⟨k2, ho, hdf, hok⟩ | ⟨k2, ho, hf, hdf, hok⟩ | ⟨k2, ho, hf, hdf, hok⟩ | ⟨k2, k3, ho, hdf, hok⟩ | ⟨k2, k3, ho, hf, hdf, hok⟩ | ⟨k2, k3, ho, hf, hdf, hok⟩ | ⟨k2, k3, hdf, hok⟩
  all_goals dsimp only [TFeature.en] at *
  repeat' ((first
    | (refine iAL ?_; first | refine AL.any ?_ | refine AL.any (h := POp.k Tryz.func118 (hc := cloneF' x hsx)) ?_ | refine AL.any (h := POp.k Tryz.func309 (hc := dp_i x.points i hl)) ?_ | refine AL.any (h := POp.k Tryz.func310 (hc := dc_i x.points i hl)) ?_ | refine AL.U ?_ | refine AL.F ?_ | refine AL.T ?_ | refine AL.T (h := POp.k Tryz.func119 (hc := by first | exact isFeat_i ⟨x.id, x.kind, x.rank, x.name, dpL x.points i⟩ hg2 | exact isFeat_i ⟨x.id, x.kind, x.rank, x.name, dcL x.points i⟩ hg3)) ?_ | refine AL.W ?_ | refine AL.W (h := fun h => by (try rw [h]); exact POp.k Tryz.func119 (hc := by first | exact isFeat_i ⟨x.id, x.kind, x.rank, x.name, dpL x.points i⟩ hg2 | exact isFeat_i ⟨x.id, x.kind, x.rank, x.name, dcL x.points i⟩ hg3)) ?_ | refine AL.nil ?_)
    | (refine iAW ?_; first | (refine AW.c0 ?_; constructor) | refine AW.cT ?_ | refine AW.cF ?_ | (refine AW.c2 ?_ ?_ <;> (intro h; try simp only [bT, bF] at h)))) <;> (try dsimp only))
  all_goals exact Fin.two rfl (RV.cell (QOp.quietA TT_ok (by rfl))) (RV.tmp (by rfl)) (Clo.tup (clo_cons (Clo.agg (by repeat' (first | exact clo_nil | refine clo_cons ?_ ?_ | exact clo_c _ | assumption))) (clo_cons (clo_c _) clo_nil))) ⟨by rw [hdf, hok] <;> rfl, rfl⟩

theorem meetF_s (a b : TFeature) (ga : a.gd) (gb : b.gd) : VCalls Tryz.prog 150 [.agg a.en, .agg b.en] (fun r M => r = I (meetF a b) ∧ M = []) := by
  refine VB Tryz.func150 36 (fun E hE => ?_)
  have a1 := True.intro
  have hclA : Clo (.ro 4 (((partsOf a)).map TSegment.en)) := clo_list TSegment.clo_en
  have hclB : Clo (.ro 4 (((partsOf b)).map TSegment.en)) := clo_list TSegment.clo_en
  have hcla : Clo (.agg a.en) := Clo.agg a.clo_en
  have hclb : Clo (.agg b.en) := Clo.agg b.clo_en
  have hla := partsOf_le a
  have hlb := partsOf_le b
  repeat' ((first
    | (refine iAL ?_; first | refine AL.any ?_ | refine AL.any (h := POp.k Tryz.func110 (hc := by first | exact parts_s a ga | exact parts_s b gb)) ?_ | refine AL.any (h := POp.k Tryz.func222 (hc := max_s _ _)) ?_ | refine AL.nil ?_)
    | ((with_reducible show DL ..); first | refine DL.any ?_ | refine DL.any (h := POp.k Tryz.func223 (hc := meet_s s y)) ?_ | refine DL.nil ?_)
    | (refine iAW ?_; first | (refine AW.c0 ?_; constructor) | refine AW.dr (id := 10) 10 ?_ | refine AW.cT ?_ | refine AW.cF ?_ | (refine AW.c2 ?_ ?_ <;> (intro h; try simp only [bT, bF] at h)))
    | (have _ := a1
       clear a1
       refine AW.loopD hE (fun s_ : Nat => [.any, .any, .any, .any, .any, I (mtTo (partsOf a) (partsOf b) s_), .ro 4 (((partsOf a)).map TSegment.en), .ro 4 (((partsOf b)).map TSegment.en), I (s_ : Int), .any, .any, .any, .any, .any, .any, .any, .any, .any, .any, .any, .any, .any, .any, .any, .any, .any, .any, .any, .any, .any, .any, .any, .any, .any, .any, .any, .any, .any]) (fun s_ => [some ⟨81, 5, 0, true, [a.en]⟩, some ⟨81, 5, 0, true, [b.en]⟩]) (fun s_ => (partsOf a).length - s_) (fun s_ => s_ ≤ (partsOf a).length) 0 (Nat.zero_le _) ?_ (by first | rfl | (rfl)) ?_
       (focus (exact wkI))
       rintro i hJ
       try dsimp only at hJ
       try dsimp only
       by_cases hlt : i < (partsOf a).length
       case' pos =>
         have a2 := True.intro
         obtain ⟨s, hs⟩ := getD_some (l := (partsOf a)) (i := i) hlt
         have hg := map_get (f := TSegment.en) hs
         have ht := lt_true (f := TSegment.en) hlt
         have hn := next_ix hlt (by omega)
         have hss := mtTo_succ (T := (partsOf b)) hs
         have hcs : Clo (.agg s.en) := Clo.agg s.clo_en
       case' neg =>
         have q1 := True.intro
         have ht := lt_false (f := TSegment.en) hlt
         have ei : i = (partsOf a).length := by omega
         rw [ei]
         clear ei)
    | (have _ := a2
       clear a2
       refine AW.loopD hE (fun s_ : Nat => [.any, .any, .any, .any, .any, I (mrTo s (partsOf b) (mtTo (partsOf a) (partsOf b) i) s_), .ro 4 (((partsOf a)).map TSegment.en), .ro 4 (((partsOf b)).map TSegment.en), I (i : Int), I (s_ : Int), .any, .any, .any, .any, .any, .any, .any, .any, .any, .any, .any, .any, .any, .any, .any, .any, .any, .any, .any, .any, .any, .any, .any, .any, .any, .any, .any, .any]) (fun s_ => [some ⟨81, 5, 0, true, [a.en]⟩, some ⟨81, 5, 0, true, [b.en]⟩]) (fun s_ => (partsOf b).length - s_) (fun s_ => s_ ≤ (partsOf b).length) 0 (Nat.zero_le _) ?_ (by first | rfl | (rfl)) ?_
       (focus (exact wkI))
       rintro k hJ
       try dsimp only at hJ
       try dsimp only
       by_cases hlt : k < (partsOf b).length
       case' pos =>
         have p2 := True.intro
         obtain ⟨y, hy⟩ := getD_some (l := (partsOf b)) (i := k) hlt
         have hgy := map_get (f := TSegment.en) hy
         have hty := lt_true (f := TSegment.en) hlt
         have hny := next_ix hlt (by omega)
         have hsy := mrTo_succ (s := s) (n := mtTo (partsOf a) (partsOf b) i) hy
         have hcy : Clo (.agg y.en) := Clo.agg y.clo_en
       case' neg =>
         have q2 := True.intro
         have hty := lt_false (f := TSegment.en) hlt
         have ek : k = (partsOf b).length := by omega
         rw [ek]
         clear ek)
    | with_reducible refine ifP ?_
    | with_reducible refine ifN ?_) <;> (try dsimp only))
  all_goals first
    | (have _ := p2; refine ⟨k + 1, _, hlt, by omega, ?_, rfl, ?_, ?_⟩; (focus ((repeat' (first | exact Wk.nil | refine Wk.any ?_ | (with_reducible refine Wk.same ?_) | refine Wk.of ?_ ?_)) <;> first | rfl | (rw [hsy] <;> first | rfl | (unfold wmax; rfl)) | (rw [hny]; done))); (focus (exact fitsA)); (focus (exact fitsM_cons (clo_one a.clo_en) (fitsM_cons (clo_one b.clo_en) (FitsM.nil _)))))
    | (have _ := q2; refine ⟨i + 1, _, (by assumption), by omega, ?_, rfl, ?_, ?_⟩; (focus ((repeat' (first | exact Wk.nil | refine Wk.any ?_ | (with_reducible refine Wk.same ?_) | refine Wk.of ?_ ?_)) <;> first | rfl | (rw [hss]; done) | (rw [hn]; done))); (focus (exact fitsA)); (focus (exact fitsM_cons (clo_one a.clo_en) (fitsM_cons (clo_one b.clo_en) (FitsM.nil _)))))
    | (have _ := q1; exact Fin.one rfl (RV.tmp (by rfl)) (clo_c _) ⟨by rw [mt_all], rfl⟩)

theorem great_i (S1 S2 : List TSegment) (h1 : S1.length ≤ 1048576) (h2 : S2.length ≤ 1048576) : VCalls Tryz.prog 224 [.ro 4 ((S1).map TSegment.en), .ro 4 ((S2).map TSegment.en)] (fun r M => r = I (mtTo S1 S2 S1.length) ∧ M = []) := by
  refine VB Tryz.func224 28 (fun E hE => ?_)
  have a1 := True.intro
  have hclA : Clo (.ro 4 ((S1).map TSegment.en)) := clo_list TSegment.clo_en
  have hclB : Clo (.ro 4 ((S2).map TSegment.en)) := clo_list TSegment.clo_en
  repeat' ((first
    | (refine iAL ?_; first | refine AL.any ?_ | refine AL.any (h := POp.k Tryz.func247 (hc := meet_i s y)) ?_ | refine AL.nil ?_)
    | (refine iAW ?_; first | (refine AW.c0 ?_; constructor) | refine AW.cT ?_ | refine AW.cF ?_ | (refine AW.c2 ?_ ?_ <;> (intro h; try simp only [bT, bF] at h)))
    | (have _ := a1
       clear a1
       refine AW.loopD hE (fun s_ : Nat => [.any, .ro 4 ((S2).map TSegment.en), .any, .any, .any, I (mtTo S1 S2 s_), .any, .any, .any, .any, .ro 4 ((S1).map TSegment.en), I ((S1.map TSegment.en).length : Int), I (s_ : Int), .any, .any, .any, .any, .any, .any, .any, .any, .any, .any, .any, .any, .any, .any, .any, .any, .any]) (fun s_ => []) (fun s_ => S1.length - s_) (fun s_ => s_ ≤ S1.length) 0 (Nat.zero_le _) ?_ (by first | rfl | (rfl)) ?_
       (focus (exact wkI))
       rintro i hJ
       try dsimp only at hJ
       try dsimp only
       by_cases hlt : i < S1.length
       case' pos =>
         have a2 := True.intro
         obtain ⟨s, hs⟩ := getD_some (l := S1) (i := i) hlt
         have hg := map_get (f := TSegment.en) hs
         have ht := lt_true (f := TSegment.en) hlt
         have hn := next_ix hlt (by omega)
         have hss := mtTo_succ (T := S2) hs
         have hcs : Clo (.agg s.en) := Clo.agg s.clo_en
       case' neg =>
         have q1 := True.intro
         have ht := lt_false (f := TSegment.en) hlt
         obtain rfl : i = S1.length := by omega)
    | (have _ := a2
       clear a2
       refine AW.loopD hE (fun s_ : Nat => [.any, .ro 4 ((S2).map TSegment.en), .any, .any, .any, I (mrTo s S2 (mtTo S1 S2 i) s_), .any, .ref 0 0 4 0 0, .any, .any, .ro 4 ((S1).map TSegment.en), I ((S1.map TSegment.en).length : Int), I (i : Int), .any, .any, .any, .ro 4 ((S2).map TSegment.en), I ((S2.map TSegment.en).length : Int), I (s_ : Int), .any, .any, .any, .any, .any, .any, .any, .any, .any, .any, .any]) (fun s_ => [some ⟨200, 4, 0, true, [s.en]⟩]) (fun s_ => S2.length - s_) (fun s_ => s_ ≤ S2.length) 0 (Nat.zero_le _) ?_ (by first | rfl | (rfl)) ?_
       (focus (exact wkI))
       rintro k hJ
       try dsimp only at hJ
       try dsimp only
       by_cases hlt : k < S2.length
       case' pos =>
         have p2 := True.intro
         obtain ⟨y, hy⟩ := getD_some (l := S2) (i := k) hlt
         have hgy := map_get (f := TSegment.en) hy
         have hty := lt_true (f := TSegment.en) hlt
         have hny := next_ix hlt (by omega)
         have hsy := mrTo_succ (s := s) (n := mtTo S1 S2 i) hy
         have hcy : Clo (.agg y.en) := Clo.agg y.clo_en
       case' neg =>
         have q2 := True.intro
         have hty := lt_false (f := TSegment.en) hlt
         have ek : k = S2.length := by omega
         rw [ek]
         clear ek)
    | with_reducible refine ifP ?_
    | with_reducible refine ifN ?_) <;> (try dsimp only))
  all_goals first
    | (have _ := p2; refine ⟨k + 1, _, hlt, by omega, ?_, rfl, ?_, ?_⟩; (focus ((repeat' (first | exact Wk.nil | refine Wk.any ?_ | (with_reducible refine Wk.same ?_) | refine Wk.of ?_ ?_)) <;> first | rfl | (rw [hsy] <;> first | rfl | (unfold wmax; rfl)) | (rw [hny]; done))); (focus (exact fitsA)); (focus (exact fitsM_cons (clo_one s.clo_en) (FitsM.nil _))))
    | (have _ := q2; refine ⟨i + 1, _, (by assumption), by omega, ?_, rfl, ?_, ?_⟩; (focus ((repeat' (first | exact Wk.nil | refine Wk.any ?_ | (with_reducible refine Wk.same ?_) | refine Wk.of ?_ ?_)) <;> first | rfl | (rw [hss]; done) | (rw [hn]; done))); (focus (exact fitsA)); (focus (exact FitsM.nil _)))
    | (have _ := q1; exact Fin.one rfl (RV.tmp (by rfl)) (clo_c _) ⟨rfl, rfl⟩)

theorem meetF_i (a b : TFeature) (ga : a.gd) (gb : b.gd) : VCalls Tryz.prog 151 [.agg a.en, .agg b.en] (fun r M => r = I (meetF a b) ∧ M = []) := by
  refine VB Tryz.func151 8 (fun E hE => ?_)
  have hclA : Clo (.ro 4 (((partsOf a)).map TSegment.en)) := clo_list TSegment.clo_en
  have hclB : Clo (.ro 4 (((partsOf b)).map TSegment.en)) := clo_list TSegment.clo_en
  have hcla : Clo (.agg a.en) := Clo.agg a.clo_en
  have hclb : Clo (.agg b.en) := Clo.agg b.clo_en
  have hla := partsOf_le a
  have hlb := partsOf_le b
  repeat' ((first
    | (refine iAL ?_; first | refine AL.any ?_ | refine AL.any (h := POp.k Tryz.func184 (hc := by first | exact parts_i a ga | exact parts_i b gb)) ?_ | refine AL.any (h := POp.k Tryz.func224 (hc := great_i (partsOf a) (partsOf b) (by omega) (by omega))) ?_ | refine AL.nil ?_)
    | ((with_reducible show DL ..); first | refine DL.any ?_ | refine DL.any (h := POp.k Tryz.func184 (hc := by first | exact parts_i a ga | exact parts_i b gb)) ?_ | refine DL.nil ?_)
    | (refine iAW ?_; first | (refine AW.c0 ?_; constructor) | refine AW.dr (id := 1) 3 ?_)) <;> (try dsimp only))
  all_goals exact Fin.one rfl (RV.tmp (by rfl)) (clo_c _) ⟨by rw [← mt_all], rfl⟩

theorem can_s (x : TFeature) (j : Nat) (os : List TFeature) (hgx : x.gd) (hos : os.length ≤ 1048576) (hgo : ∀ o ∈ os, o.gd) : VCalls Tryz.prog 270 [.agg x.en, I (j : Int), .ro 5 (os.map TFeature.en)] (fun r M => r = B (canS x j os) ∧ M = []) := by
  refine VB Tryz.func270 36 (fun E hE => ?_)
  have a1 := True.intro
  have hclo : Clo (.ro 5 (os.map TFeature.en)) := clo_list TFeature.clo_en
  have hcle : Clo (.agg x.en) := Clo.agg x.clo_en
  have hcld : Clo (.agg (dfF x j).en) := Clo.agg (TFeature.clo_en _)
  have hgd := dfF_gd hgx j
  have hctd : Clo (.tup [.agg (dfF x j).en, B (dfOk x j)]) := Clo.tup (clo_cons hcld (clo_cons (clo_c _) clo_nil))
  repeat' ((first
    | (refine iAL ?_; first | refine AL.any ?_ | refine AL.any (h := POp.k Tryz.func150 (hc := by first | exact meetF_s (dfF x j) o hgd hgo1 | exact meetF_s x o hgx hgo1)) ?_ | refine AL.any (h := POp.k Tryz.func271 (hc := df_s x j hgx)) ?_ | refine AL.U ?_ | refine AL.F ?_ | refine AL.T ?_ | refine AL.W ?_ | refine AL.nil ?_)
    | ((with_reducible show DL ..); first | refine DL.any ?_ | refine DL.any (h := POp.k Tryz.func150 (hc := by first | exact meetF_s (dfF x j) o hgd hgo1 | exact meetF_s x o hgx hgo1)) ?_ | refine DL.nil ?_)
    | (refine iAW ?_; first | (refine AW.c0 ?_; constructor) | refine AW.dr (id := 5) 11 ?_ | refine AW.cT ?_ | refine AW.cF ?_ | (refine AW.c2 ?_ ?_ <;> (intro h; try simp only [bT, bF] at h)))
    | (have _ := a1
       clear a1
       refine AW.loopD hE (fun s_ : Nat => [.any, .any, .ro 5 (os.map TFeature.en), .ref 0 0 5 0 0, .any, .any, .any, .ref 1 0 5 0 0, B (canTo x j os s_), I (s_ : Int), .any, .any, .any, .any, .any, .any, .any, .any, .any, .any, .any, .any, .any, .any, .any, .any, .any, .any, .any, .any, .any, .any, .any, .any, .any, .any, .any, .any, .any]) (fun s_ => [some ⟨81, 5, 0, true, [x.en]⟩, some ⟨81, 5, 0, true, [(dfF x j).en]⟩]) (fun s_ => os.length - s_) (fun s_ => s_ ≤ os.length) 0 (Nat.zero_le _) ?_ (by first | rfl | (rfl)) ?_
       (focus ((repeat' (first | exact Wk.nil | refine Wk.any ?_ | (with_reducible refine Wk.same ?_) | refine Wk.of ?_ ?_)) <;> first | rfl | (simp [canTo])))
       rintro k hJ
       try dsimp only at hJ
       try dsimp only
       by_cases hlt : k < os.length ∧ canTo x j os k = true
       case' pos =>
         have p1 := True.intro
         obtain ⟨hk, hok⟩ := hlt
         obtain ⟨o, ho⟩ := getD_some (l := os) (i := k) hk
         have hgg := map_get (f := TFeature.en) ho
         have ht := lt_true (f := TFeature.en) hk
         have hn := next_ix hk (by omega)
         have hgo1 := hgo o (List.mem_of_getElem? ho)
         have hclo1 : Clo (.agg o.en) := Clo.agg o.clo_en
         have hat := canTo_succ ho hok
       case' neg =>
         have q1 := True.intro
         by_cases hk : k < os.length
         case' pos =>
           have ht := lt_true (f := TFeature.en) hk
           have hok : canTo x j os k = false := by
             cases hc : canTo x j os k
             · rfl
             · exact absurd ⟨hk, hc⟩ hlt
           have hres := canTo_end (.inl hok)
         case' neg =>
           have ht := lt_false (f := TFeature.en) hk
           have hres := canTo_end (x := x) (j := j) (show canTo x j os k = false ∨ k = os.length from .inr (by omega)))
    | with_reducible refine ifP ?_
    | with_reducible refine ifN ?_) <;> (try dsimp only))
  all_goals first
    | (have _ := p1; refine ⟨k + 1, _, (by assumption), by omega, ?_, rfl, ?_, ?_⟩; (focus ((repeat' (first | exact Wk.nil | refine Wk.any ?_ | (with_reducible refine Wk.same ?_) | refine Wk.of ?_ ?_)) <;> first | rfl | (rw [hat]; done) | (rw [hn]; done))); (focus (exact fitsA)); (focus (exact fitsM_cons (clo_one x.clo_en) (fitsM_cons (clo_one (TFeature.clo_en _)) (FitsM.nil _)))))
    | (have _ := q1; exact Fin.one rfl (RV.tmp (by rfl)) (clo_c _) ⟨by rw [hres], rfl⟩)

theorem can_i (x : TFeature) (j : Nat) (os : List TFeature) (hgx : x.gd) (hos : os.length ≤ 1048576) (hgo : ∀ o ∈ os, o.gd) : VCalls Tryz.prog 276 [.agg x.en, I (j : Int), .ro 5 (os.map TFeature.en)] (fun r M => r = B (canS x j os) ∧ M = []) := by
  refine VB Tryz.func276 30 (fun E hE => ?_)
  have hclo : Clo (.ro 5 (os.map TFeature.en)) := clo_list TFeature.clo_en
  have hcle : Clo (.agg x.en) := Clo.agg x.clo_en
  have hcld : Clo (.agg (dfF x j).en) := Clo.agg (TFeature.clo_en _)
  have hgd := dfF_gd hgx j
  have hctd : Clo (.tup [.agg (dfF x j).en, B (dfOk x j)]) := Clo.tup (clo_cons hcld (clo_cons (clo_c _) clo_nil))
  rcases Bool.eq_false_or_eq_true (dfOk x j) with hdk | hdk
  repeat' ((first
    | (refine iAL ?_; first | refine AL.any ?_ | refine AL.any (h := POp.k Tryz.func151 (hc := by first | exact meetF_i (dfF x j) o hgd hgo1 | exact meetF_i x o hgx hgo1)) ?_ | refine AL.any (h := POp.k Tryz.func277 (hc := df_i x j hgx)) ?_ | refine AL.nil ?_)
    | ((with_reducible show DL ..); first | refine DL.any ?_ | refine DL.any (h := POp.k Tryz.func151 (hc := by first | exact meetF_i (dfF x j) o hgd hgo1 | exact meetF_i x o hgx hgo1)) ?_ | refine DL.nil ?_)
    | (refine iAW ?_; first | (refine AW.c0 ?_; constructor) | refine AW.dr (id := 7) 5 ?_ | refine AW.cT ?_ | refine AW.cF ?_ | (refine AW.c2 ?_ ?_ <;> (intro h; try simp only [bT, bF] at h)))
    | (refine AW.loopD hE (fun i : Nat => [.any, .any, .any, .ref 0 0 5 0 0, .any, .any, .any, .ref 1 0 5 0 0, .any, .any, .any, .any, .any, .any, .any, .any, .any, .any, .any, .ro 5 (os.map TFeature.en), I ((os.map TFeature.en).length : Int), I (i : Int), .any, .any, .any, .any, .any, .any, .any, .any, .any, .any, .any]) (fun i => [some ⟨81, 5, 0, true, [x.en]⟩, some ⟨81, 5, 0, true, [(dfF x j).en]⟩]) (fun i => os.length - i) (fun i => i ≤ os.length ∧ (os.take i).all (canP x j) = true) 0 ⟨Nat.zero_le _, rfl⟩ ?_ (by first | rfl | (simp [fil_zero]; done)) ?_
       (focus ((repeat' (first | exact Wk.nil | refine Wk.any ?_ | (with_reducible refine Wk.same ?_) | refine Wk.of ?_ ?_)) <;> first | rfl | (rfl)))
       intro i hi
       have hi2 := hi.2
       by_cases hlt : i < os.length
       case' pos =>
         have hP := True.intro
         obtain ⟨o, hx⟩ : ∃ x, os[i]? = some x := ⟨_, List.getElem?_eq_getElem hlt⟩
         have hg := map_get (f := TFeature.en) hx
         have ht := lt_true (f := TFeature.en) hlt
         have hn := next_ix hlt (by omega)
         have hgo1 := hgo o (List.mem_of_getElem? hx)
         have hclo1 : Clo (.agg o.en) := Clo.agg o.clo_en
         have hgt : decide (meetF (dfF x j) o > meetF x o) = !canP x j o := by unfold canP; by_cases h : meetF (dfF x j) o ≤ meetF x o <;> simp [h] <;> omega
         rcases Bool.eq_false_or_eq_true (canP x j o) with hcp | hcp
         case' inl => have hjn := (all_take_y (p := canP x j) hx hi2).trans hcp
         all_goals (rw [hcp] at hgt; simp only [Bool.not_true, Bool.not_false] at hgt)
       case' neg =>
         have hQ := True.intro
         have ht := lt_false (f := TFeature.en) hlt
         have e : i = os.length := by omega
         subst e
         try rw [List.take_length])
    | with_reducible refine ifP ?_
    | with_reducible refine ifN ?_) <;> (try dsimp only))
  all_goals first
    | (have _ := hP; (refine ⟨i + 1, _, ⟨hlt, hjn⟩, by omega, ?_, rfl, ?_, ?_⟩; (focus ((repeat' (first | exact Wk.nil | refine Wk.any ?_ | (with_reducible refine Wk.same ?_) | refine Wk.of ?_ ?_)) <;> (first | rfl | (rw [hn]; done)))); (focus (exact fitsA)); (focus (exact fitsM_cons (clo_one x.clo_en) (fitsM_cons (clo_one (TFeature.clo_en _)) (FitsM.nil _))))))
    | (have _ := hP; exact Fin.one rfl (RV.tmp (by rfl)) (clo_c _) ⟨by rw [canS_no hx hcp], rfl⟩)
    | (have _ := hQ; exact Fin.one rfl (RV.tmp (by rfl)) (clo_c _) ⟨by rw [can_all (by assumption), hi2], rfl⟩)
    | (exact Fin.one rfl (RV.tmp (by rfl)) (clo_c _) ⟨by rw [canS_n (by assumption)], rfl⟩)

theorem isFeatT_s (x : TFeature) (hg : x.gd) (h : isFeat x = true) : VCalls Tryz.prog 109 [.agg x.en] (fun r M => r = B true ∧ M = []) := h ▸ isFeat_s x hg
theorem sizeB_s (x : TFeature) (b : Int) (hb : ∃ k : Nat, b = (k : Int)) (hg : x.gd) : VCalls Tryz.prog 269 [.agg x.en, I b] (fun r M => r = I (sizeA x b.toNat) ∧ M = []) := by
  obtain ⟨k, rfl⟩ := hb
  exact size_s x k hg
theorem dfB_s (x : TFeature) (b : Int) (hb : ∃ k : Nat, b = (k : Int)) (hg : x.gd) : VCalls Tryz.prog 271 [.agg x.en, I b] (fun r M => r = .tup [.agg (dfF x b.toNat).en, B (dfOk x b.toNat)] ∧ M = []) := by
  obtain ⟨k, rfl⟩ := hb
  exact df_s x k hg
theorem shrF_s (f : TFeature) (os : List TFeature) (least : Int) (hgf : f.gd) (hF : isFeat f = true) (hos : os.length ≤ 1048576) (hgo : ∀ o ∈ os, o.gd) : VCalls Tryz.prog 202 [.agg f.en, .ro 5 (os.map TFeature.en), I least] (fun r M => r = .agg (shr os least f).en ∧ M = []) := by
  refine VB Tryz.func202 57 (fun E hE => ?_)
  have a1 := True.intro
  have hclo : Clo (.ro 5 (os.map TFeature.en)) := clo_list TFeature.clo_en
  have hclf : Clo (.agg f.en) := Clo.agg f.clo_en
  have hsf : f.sm := hgf.1
  repeat' ((first
    | (refine iAL ?_; first | refine AL.any ?_ | refine AL.any (h := POp.k Tryz.func108 (hc := cloneF_s' f hsf)) ?_ | refine AL.any (h := POp.k Tryz.func109 (hc := isFeatT_s f hgf hF)) ?_ | refine AL.any (h := POp.k Tryz.func269 (hc := by first | exact size_s out i hgt | exact sizeB_s out (bestTo out os least i) (by assumption) hgt)) ?_ | refine AL.any (h := POp.k Tryz.func271 (hc := dfB_s out (bestTo out os least out.points.length) hbk hgt)) ?_ | refine AL.U ?_ | refine AL.F ?_ | refine AL.T ?_ | refine AL.T (h := POp.k Tryz.func269 (hc := by first | exact size_s out i hgt | exact sizeB_s out (bestTo out os least i) (by assumption) hgt)) ?_ | refine AL.T (h := POp.k Tryz.func270 (hc := can_s out i os hgt hos hgo)) ?_ | refine AL.W ?_ | refine AL.W (h := fun h => by (try rw [h]); exact POp.k Tryz.func269 (hc := by first | exact size_s out i hgt | exact sizeB_s out (bestTo out os least i) (by assumption) hgt)) ?_ | refine AL.W (h := fun h => by (try rw [h]); exact POp.k Tryz.func270 (hc := can_s out i os hgt hos hgo)) ?_ | refine AL.nil ?_)
    | (refine iAW ?_; first | (refine AW.c0 ?_; constructor) | refine AW.cT ?_ | refine AW.cF ?_ | (refine AW.c2 ?_ ?_ <;> (intro h; try simp only [bT, bF] at h)))
    | (have _ := a1
       clear a1
       refine AW.loopD hE (fun s_ : TFeature => [.any, .ro 5 (os.map TFeature.en), I least, .ref 0 0 5 0 0, .any, .any, .ref 1 0 5 0 0, .ref 2 0 5 0 0, .any, .any, .any, .any, .any, .any, .any, .any, .any, .any, .any, .any, .any, .any, .any, .any, .any, .any, .any, .any, .any, .any, .any, .any, .any, .any, .any, .any, .any, .any, .any, .any, .any, .any, .any, .any, .any, .any, .any, .any, .any, .any, .any, .any, .any, .any, .any, .any, .any, .any, .any, .any]) (fun s_ => [some ⟨81, 5, 0, true, [f.en]⟩, some ⟨81, 5, 0, true, [[.c (.int .i64 0), .c (.int .i64 0), .c (.int .i64 0), .c (.string ⟨#[]⟩), .c (.slice none 0 0)]]⟩, some ⟨81, 5, 0, true, [s_.en]⟩]) (fun s_ => s_.points.length) (fun s_ => s_.gd ∧ shr os least s_ = shr os least f) f ⟨hgf, rfl⟩ ?_ (by first | rfl | (rfl)) ?_
       (focus (exact wkI))
       rintro out hJ
       try dsimp only at hJ
       try dsimp only
       by_cases hlt : True
       case' pos =>
         have a2 := True.intro
         obtain ⟨hgt, hsh⟩ := hJ
         have hol := hgt.1
         have hclt : Clo (.agg out.en) := Clo.agg out.clo_en
         have hclp : Clo (.ro 2 (out.points.map TPoint.en)) := clo_list TPoint.clo_en
       case' neg =>
         have q1 := True.intro
         exact absurd trivial hlt)
    | (have _ := a2
       clear a2
       refine AW.loopD hE (fun s_ : Nat => [.any, .ro 5 (os.map TFeature.en), I least, .ref 0 0 5 0 0, .any, .any, .ref 1 0 5 0 0, .ref 2 0 5 0 0, I (bestTo out os least s_), I (s_ : Int), .any, .any, .any, .any, .any, .any, .any, .any, .any, .any, .any, .any, .any, .any, .any, .any, .any, .any, .any, .any, .any, .any, .any, .any, .any, .any, .any, .any, .any, .any, .any, .any, .any, .any, .any, .any, .any, .any, .any, .any, .any, .any, .any, .any, .any, .any, .any, .any, .any, .any]) (fun s_ => [some ⟨81, 5, 0, true, [f.en]⟩, some ⟨81, 5, 0, true, [[.c (.int .i64 0), .c (.int .i64 0), .c (.int .i64 0), .c (.string ⟨#[]⟩), .c (.slice none 0 0)]]⟩, some ⟨81, 5, 0, true, [out.en]⟩]) (fun s_ => out.points.length - s_) (fun s_ => s_ ≤ out.points.length) 0 (Nat.zero_le _) ?_ (by first | rfl | (rfl)) ?_
       (focus (exact wkI))
       rintro i hJ2
       try dsimp only at hJ2
       try dsimp only
       by_cases hlt : i < out.points.length
       case' pos =>
         have p2 := True.intro
         have ht := lt_true (f := TPoint.en) hlt
         have hn := next_ix hlt (by omega)
         rcases pick_cases os least i hol with ⟨g1, g4, hbn⟩ | ⟨g1, g2, hbn⟩ | ⟨g1, g2, g3, g4, hbn⟩ | ⟨g1, g2, g3, g4, hbn⟩ | ⟨g1, g2, g3, hbk, g5, hbn⟩ | ⟨g1, g2, g3, hbk, g5, g4, hbn⟩ | ⟨g1, g2, g3, hbk, g5, g4, hbn⟩
       case' neg =>
         have q2 := True.intro
         have ht := lt_false (f := TPoint.en) hlt
         have ei : i = out.points.length := by omega
         rw [ei]
         rcases best_form out os least out.points.length with hb | ⟨k, _, hb, hck⟩
         case' inl =>
           have hb0 : decide (bestTo out os least out.points.length < 0) = true := by rw [hb]; rfl
           have hres : shr os least f = out := by rw [← hsh, shr_end hb]
         case' inr =>
           have hb0 : decide (bestTo out os least out.points.length < 0) = false := by rw [hb]; simp
           have hbk : ∃ k : Nat, bestTo out os least out.points.length = (k : Int) := ⟨k, hb⟩
           have hst := shr_step hol hb hck
           have hbt : (bestTo out os least out.points.length).toNat = k := by rw [hb]; rfl
           have hcld : Clo (.agg (dfF out (bestTo out os least out.points.length).toNat).en) := Clo.agg (TFeature.clo_en _)
           have hctd : Clo (.tup [.agg (dfF out (bestTo out os least out.points.length).toNat).en, B (dfOk out (bestTo out os least out.points.length).toNat)]) := Clo.tup (clo_cons hcld (clo_cons (clo_c _) clo_nil)))
    | with_reducible refine ifP ?_
    | with_reducible refine ifN ?_) <;> (try dsimp only))
  all_goals first
    | (have _ := p2; refine ⟨i + 1, _, hlt, by omega, ?_, rfl, ?_, ?_⟩; (focus ((repeat' (first | exact Wk.nil | refine Wk.any ?_ | (with_reducible refine Wk.same ?_) | refine Wk.of ?_ ?_)) <;> first | rfl | (rw [hbn]; done) | (rw [hn]; done))); (focus (exact fitsA)); (focus (exact fitsM_cons (clo_one f.clo_en) (fitsM_cons (clo_rows_b rfl) (fitsM_cons (clo_one (TFeature.clo_en _)) (FitsM.nil _))))))
    | (have _ := q2; exact Fin.one rfl (RV.cell (QOp.quietA TT_ok (by rfl))) (Clo.agg (TFeature.clo_en _)) ⟨by rw [hres] <;> rfl, rfl⟩)
    | (have _ := q2; refine ⟨dfF out (bestTo out os least out.points.length).toNat, _, ⟨dfF_gd hgt _, by rw [hbt, ← hst.1, hsh]⟩, by (rw [hbt]; exact hst.2), ?_, rfl, ?_, ?_⟩; (focus (exact wkN)); (focus (exact fitsA)); (focus (exact fitsM_cons (clo_one f.clo_en) (fitsM_cons (clo_rows_b rfl) (fitsM_cons (clo_one (TFeature.clo_en _)) (FitsM.nil _))))))

theorem isFeatT_i (x : TFeature) (hg : x.gd) (h : isFeat x = true) : VCalls Tryz.prog 119 [.agg x.en] (fun r M => r = B true ∧ M = []) := h ▸ isFeat_i x hg
theorem sizeB_i (x : TFeature) (b : Int) (hb : ∃ k : Nat, b = (k : Int)) (hg : x.gd) : VCalls Tryz.prog 275 [.agg x.en, I b] (fun r M => r = I (sizeA x b.toNat) ∧ M = []) := by
  obtain ⟨k, rfl⟩ := hb
  exact size_i x k hg
theorem dfB_i (x : TFeature) (b : Int) (hb : ∃ k : Nat, b = (k : Int)) (hg : x.gd) : VCalls Tryz.prog 277 [.agg x.en, I b] (fun r M => r = .tup [.agg (dfF x b.toNat).en, B (dfOk x b.toNat)] ∧ M = []) := by
  obtain ⟨k, rfl⟩ := hb
  exact df_i x k hg
theorem shrF_i (f : TFeature) (os : List TFeature) (least : Int) (hgf : f.gd) (hF : isFeat f = true) (hos : os.length ≤ 1048576) (hgo : ∀ o ∈ os, o.gd) : VCalls Tryz.prog 210 [.agg f.en, .ro 5 (os.map TFeature.en), I least] (fun r M => r = .agg (shr os least f).en ∧ M = []) := by
  refine VB Tryz.func210 54 (fun E hE => ?_)
  have a1 := True.intro
  have hclo : Clo (.ro 5 (os.map TFeature.en)) := clo_list TFeature.clo_en
  have hclf : Clo (.agg f.en) := Clo.agg f.clo_en
  have hsf : f.sm := hgf.1
  repeat' ((first
    | (refine iAL ?_; first | refine AL.any ?_ | refine AL.any (h := POp.k Tryz.func118 (hc := cloneF' f hsf)) ?_ | refine AL.any (h := POp.k Tryz.func119 (hc := isFeatT_i f hgf hF)) ?_ | refine AL.any (h := POp.k Tryz.func275 (hc := by first | exact size_i out i hgt | exact sizeB_i out (bestTo out os least i) (by assumption) hgt)) ?_ | refine AL.any (h := POp.k Tryz.func277 (hc := dfB_i out (bestTo out os least out.points.length) hbk hgt)) ?_ | refine AL.U ?_ | refine AL.F ?_ | refine AL.T ?_ | refine AL.T (h := POp.k Tryz.func275 (hc := by first | exact size_i out i hgt | exact sizeB_i out (bestTo out os least i) (by assumption) hgt)) ?_ | refine AL.T (h := POp.k Tryz.func276 (hc := can_i out i os hgt hos hgo)) ?_ | refine AL.W ?_ | refine AL.W (h := fun h => by (try rw [h]); exact POp.k Tryz.func275 (hc := by first | exact size_i out i hgt | exact sizeB_i out (bestTo out os least i) (by assumption) hgt)) ?_ | refine AL.W (h := fun h => by (try rw [h]); exact POp.k Tryz.func276 (hc := can_i out i os hgt hos hgo)) ?_ | refine AL.nil ?_)
    | (refine iAW ?_; first | (refine AW.c0 ?_; constructor) | refine AW.cT ?_ | refine AW.cF ?_ | (refine AW.c2 ?_ ?_ <;> (intro h; try simp only [bT, bF] at h)))
    | (have _ := a1
       clear a1
       refine AW.loopD hE (fun s_ : TFeature => [.any, .ro 5 (os.map TFeature.en), I least, .ref 0 0 5 0 0, .any, .any, .ref 1 0 5 0 0, .ref 2 0 5 0 0, .any, .any, .any, .any, .any, .any, .any, .any, .any, .any, .any, .any, .any, .any, .any, .any, .any, .any, .any, .any, .any, .any, .any, .any, .any, .any, .any, .any, .any, .any, .any, .any, .any, .any, .any, .any, .any, .any, .any, .any, .any, .any, .any, .any, .any, .any, .any, .any, .any]) (fun s_ => [some ⟨81, 5, 0, true, [f.en]⟩, some ⟨81, 5, 0, true, [[.c (.int .i64 0), .c (.int .i64 0), .c (.int .i64 0), .c (.string ⟨#[]⟩), .c (.slice none 0 0)]]⟩, some ⟨81, 5, 0, true, [s_.en]⟩]) (fun s_ => s_.points.length) (fun s_ => s_.gd ∧ shr os least s_ = shr os least f) f ⟨hgf, rfl⟩ ?_ (by first | rfl | (rfl)) ?_
       (focus (exact wkI))
       rintro out hJ
       try dsimp only at hJ
       try dsimp only
       by_cases hlt : True
       case' pos =>
         have a2 := True.intro
         obtain ⟨hgt, hsh⟩ := hJ
         have hol := hgt.1
         have hclt : Clo (.agg out.en) := Clo.agg out.clo_en
         have hclp : Clo (.ro 2 (out.points.map TPoint.en)) := clo_list TPoint.clo_en
       case' neg =>
         have q1 := True.intro
         exact absurd trivial hlt)
    | (have _ := a2
       clear a2
       refine AW.loopD hE (fun s_ : Nat => [.any, .ro 5 (os.map TFeature.en), I least, .ref 0 0 5 0 0, .any, .any, .ref 1 0 5 0 0, .ref 2 0 5 0 0, I (bestTo out os least s_), .any, .any, .any, .any, .any, .any, .any, .any, .any, .ro 2 (out.points.map TPoint.en), I ((out.points.map TPoint.en).length : Int), I (s_ : Int), .any, .any, .any, .any, .any, .any, .any, .any, .any, .any, .any, .any, .any, .any, .any, .any, .any, .any, .any, .any, .any, .any, .any, .any, .any, .any, .any, .any, .any, .any, .any, .any, .any, .any, .any, .any]) (fun s_ => [some ⟨81, 5, 0, true, [f.en]⟩, some ⟨81, 5, 0, true, [[.c (.int .i64 0), .c (.int .i64 0), .c (.int .i64 0), .c (.string ⟨#[]⟩), .c (.slice none 0 0)]]⟩, some ⟨81, 5, 0, true, [out.en]⟩]) (fun s_ => out.points.length - s_) (fun s_ => s_ ≤ out.points.length) 0 (Nat.zero_le _) ?_ (by first | rfl | (rfl)) ?_
       (focus (exact wkI))
       rintro i hJ2
       try dsimp only at hJ2
       try dsimp only
       by_cases hlt : i < out.points.length
       case' pos =>
         have p2 := True.intro
         have ht := lt_true (f := TPoint.en) hlt
         have hn := next_ix hlt (by omega)
         rcases pick_cases os least i hol with ⟨g1, g4, hbn⟩ | ⟨g1, g2, hbn⟩ | ⟨g1, g2, g3, g4, hbn⟩ | ⟨g1, g2, g3, g4, hbn⟩ | ⟨g1, g2, g3, hbk, g5, hbn⟩ | ⟨g1, g2, g3, hbk, g5, g4, hbn⟩ | ⟨g1, g2, g3, hbk, g5, g4, hbn⟩
         case' inl => rcases Bool.eq_false_or_eq_true (decide (sizeA out i < least)) with g2 | g2
         case' inl.inl => rcases Bool.eq_false_or_eq_true (decide (bestTo out os least i < 0)) with g3 | g3
         case' inl.inl.inr =>
           have hbk : ∃ k : Nat, bestTo out os least i = (k : Int) := by
             rcases best_form out os least i with hb | ⟨k, _, hb, _⟩
             · rw [hb] at g3; cases g3
             · exact ⟨k, hb⟩
           rcases Bool.eq_false_or_eq_true (decide (sizeA out i < sizeA out (bestTo out os least i).toNat)) with g5 | g5
       case' neg =>
         have q2 := True.intro
         have ht := lt_false (f := TPoint.en) hlt
         have ei : i = out.points.length := by omega
         rw [ei]
         rcases best_form out os least out.points.length with hb | ⟨k, _, hb, hck⟩
         case' inl =>
           have hb0 : decide (bestTo out os least out.points.length < 0) = true := by rw [hb]; rfl
           have hres : shr os least f = out := by rw [← hsh, shr_end hb]
         case' inr =>
           have hb0 : decide (bestTo out os least out.points.length < 0) = false := by rw [hb]; simp
           have hbk : ∃ k : Nat, bestTo out os least out.points.length = (k : Int) := ⟨k, hb⟩
           have hst := shr_step hol hb hck
           have hbt : (bestTo out os least out.points.length).toNat = k := by rw [hb]; rfl
           have hcld : Clo (.agg (dfF out (bestTo out os least out.points.length).toNat).en) := Clo.agg (TFeature.clo_en _)
           have hctd : Clo (.tup [.agg (dfF out (bestTo out os least out.points.length).toNat).en, B (dfOk out (bestTo out os least out.points.length).toNat)]) := Clo.tup (clo_cons hcld (clo_cons (clo_c _) clo_nil)))
    | with_reducible refine ifP ?_
    | with_reducible refine ifN ?_) <;> (try dsimp only))
  all_goals first
    | (have _ := p2; refine ⟨i + 1, _, hlt, by omega, ?_, rfl, ?_, ?_⟩; (focus ((repeat' (first | exact Wk.nil | refine Wk.any ?_ | (with_reducible refine Wk.same ?_) | refine Wk.of ?_ ?_)) <;> first | rfl | (rw [hbn]; done) | (rw [hn]; done))); (focus (exact fitsA)); (focus (exact fitsM_cons (clo_one f.clo_en) (fitsM_cons (clo_rows_b rfl) (fitsM_cons (clo_one (TFeature.clo_en _)) (FitsM.nil _))))))
    | (have _ := q2; exact Fin.one rfl (RV.cell (QOp.quietA TT_ok (by rfl))) (Clo.agg (TFeature.clo_en _)) ⟨by rw [hres] <;> rfl, rfl⟩)
    | (have _ := q2; refine ⟨dfF out (bestTo out os least out.points.length).toNat, _, ⟨dfF_gd hgt _, by rw [hbt, ← hst.1, hsh]⟩, by (rw [hbt]; exact hst.2), ?_, rfl, ?_, ?_⟩; (focus (exact wkN)); (focus (exact fitsA)); (focus (exact fitsM_cons (clo_one f.clo_en) (fitsM_cons (clo_rows_b rfl) (fitsM_cons (clo_one (TFeature.clo_en _)) (FitsM.nil _))))))

theorem map_take_cpy {α β : Type} {f : α → β} {l : List α} {i : Nat} {x : α} (h : l[i]? = some x) : (l.take (i + 1)).map f = (l.take i).map f ++ [f x] := by rw [take_succ_of h, List.map_append]; rfl
theorem take_len {α : Type} (l : List α) (i : Nat) : (l.take i).length ≤ i := by rw [List.length_take]; omega
theorem cpS_i (l : List TFeature) (hl : l.length ≤ 1048576) (hp : ∀ x ∈ l, x.sm) : VCalls Tryz.prog 168 [.ro 5 (l.map TFeature.en)] (fun r M => r = .own 0 0 ∧ M = [some ⟨81, 5, 0, false, l.map TFeature.ed⟩]) := by
  refine VB Tryz.func168 19 (fun E hE => ?_)
  have hclo : Clo (.ro 5 (l.map TFeature.en)) := clo_list TFeature.clo_en
  repeat' ((first
    | (refine iAL ?_; first | refine AL.any (h := POp.gh POp.mk (Gh.absorbA (q := 0) (id := 2) (j := 4) rfl rfl rfl rfl rfl rfl (DCl.map (fun _ => rfl)) TPoint.und)) ?_ | refine AL.any ?_ | refine AL.any (h := POp.O Tryz.func118 (hc := cloneF x (by assumption))) ?_ | refine AL.nil ?_)
    | (refine iAW ?_; first | (refine AW.c0 ?_; constructor) | refine AW.cT ?_ | refine AW.cF ?_ | (refine AW.c2 ?_ ?_ <;> (intro h; try simp only [bT, bF] at h)))
    | (refine AW.loopD hE (fun i : Nat => [.any, .any, .any, .own 0 i, .any, .any, .any, .ro 5 (l.map TFeature.en), I ((l.map TFeature.en).length : Int), I (i : Int), .any, .any, .any, .any, .any, .any, .any, .any, .any, .any]) (fun i => [some ⟨81, 5, i, false, (l.take i).map TFeature.ed⟩]) (fun i => l.length - i) (fun i => i ≤ l.length) 0 (by simp) ?_ (by first | rfl | (simp [fil_zero]; done)) ?_
       (focus ((repeat' (first | exact Wk.nil | refine Wk.any ?_ | (with_reducible refine Wk.same ?_) | refine Wk.of ?_ ?_)) <;> first | rfl | (rfl)))
       intro i hi
       by_cases hlt : i < l.length
       case' pos =>
         have hP := True.intro
         obtain ⟨x, hx⟩ : ∃ x, l[i]? = some x := ⟨_, List.getElem?_eq_getElem hlt⟩
         have hg := map_get (f := TFeature.en) hx
         have ht := lt_true (f := TFeature.en) hlt
         have hn := next_ix hlt (by omega)
         have hm := map_take_cpy (f := TFeature.ed) hx
         have hln := take_len l i
         have hcle : Clo (.agg x.en) := Clo.agg x.clo_en
         have hpx := hp x (List.mem_of_getElem? hx)
         have hclP : Clo (.ro 2 (x.points.map TPoint.en)) := clo_list TPoint.clo_en
       case' neg =>
         have hQ := True.intro
         have ht := lt_false (f := TFeature.en) hlt
         have e : i = l.length := by omega
         subst e
         try rw [List.take_length])
    | with_reducible refine ifP ?_
    | with_reducible refine ifN ?_) <;> (try dsimp only))
  all_goals first
    | (have _ := hP; (refine ⟨i + 1, _, hlt, by omega, ?_, by rw [hm] <;> rfl, ?_, ?_⟩; (focus (exact wkN)); (focus (exact fitsA)); (focus (exact fits_dcl (DCl.map (fun _ => rfl))))))
    | (have _ := hQ; (try simp only [List.take_length]); exact Fin.r1 [0] rfl (RV.tmp (by rfl)) ⟨rfl, rfl⟩)

theorem cpS_s (l : List TFeature) (hl : l.length ≤ 1048576) (hp : ∀ x ∈ l, x.sm) : VCalls Tryz.prog 166 [.ro 5 (l.map TFeature.en)] (fun r M => r = .own 0 0 ∧ M = [some ⟨81, 5, 0, false, l.map TFeature.ed⟩]) := by
  refine VB Tryz.func166 20 (fun E hE => ?_)
  have hclo : Clo (.ro 5 (l.map TFeature.en)) := clo_list TFeature.clo_en
  repeat' ((first
    | (refine iAL ?_; first | refine AL.any (h := POp.gh POp.mk (Gh.absorbA (q := 0) (id := 1) (j := 4) rfl rfl rfl rfl rfl rfl (DCl.map (fun _ => rfl)) TPoint.und)) ?_ | refine AL.any ?_ | refine AL.any (h := POp.O Tryz.func108 (hc := cloneF_s x (by assumption))) ?_ | refine AL.nil ?_)
    | (refine iAW ?_; first | (refine AW.c0 ?_; constructor) | refine AW.cT ?_ | refine AW.cF ?_ | (refine AW.c2 ?_ ?_ <;> (intro h; try simp only [bT, bF] at h)))
    | (refine AW.loopD hE (fun i : Nat => [.ro 5 (l.map TFeature.en), .any, .any, .own 0 i, I (i : Int), .any, .any, .any, .any, .any, .any, .any, .any, .any, .any, .any, .any, .any, .any, .any, .any]) (fun i => [some ⟨81, 5, i, false, (l.take i).map TFeature.ed⟩]) (fun i => l.length - i) (fun i => i ≤ l.length) 0 (by simp) ?_ (by first | rfl | (simp [fil_zero]; done)) ?_
       (focus ((repeat' (first | exact Wk.nil | refine Wk.any ?_ | (with_reducible refine Wk.same ?_) | refine Wk.of ?_ ?_)) <;> first | rfl | (rfl)))
       intro i hi
       by_cases hlt : i < l.length
       case' pos =>
         have hP := True.intro
         obtain ⟨x, hx⟩ : ∃ x, l[i]? = some x := ⟨_, List.getElem?_eq_getElem hlt⟩
         have hg := map_get (f := TFeature.en) hx
         have ht := lt_true (f := TFeature.en) hlt
         have hn := next_ix hlt (by omega)
         have hm := map_take_cpy (f := TFeature.ed) hx
         have hln := take_len l i
         have hcle : Clo (.agg x.en) := Clo.agg x.clo_en
         have hpx := hp x (List.mem_of_getElem? hx)
         have hclP : Clo (.ro 2 (x.points.map TPoint.en)) := clo_list TPoint.clo_en
       case' neg =>
         have hQ := True.intro
         have ht := lt_false (f := TFeature.en) hlt
         have e : i = l.length := by omega
         subst e
         try rw [List.take_length])
    | with_reducible refine ifP ?_
    | with_reducible refine ifN ?_) <;> (try dsimp only))
  all_goals first
    | (have _ := hP; (refine ⟨i + 1, _, hlt, by omega, ?_, by rw [hm] <;> rfl, ?_, ?_⟩; (focus (exact wkN)); (focus (exact fitsA)); (focus (exact fits_dcl (DCl.map (fun _ => rfl))))))
    | (have _ := hQ; (try simp only [List.take_length]); exact Fin.r1 [0] rfl (RV.tmp (by rfl)) ⟨rfl, rfl⟩)

theorem shAll_i (l : List TFeature) (least : Int) (hl : l.length ≤ 1048576) (hg0 : ∀ x ∈ l, x.gd) : VCalls Tryz.prog 142 [.ro 5 (l.map TFeature.en), I least] (fun r M => r = .ro 5 ((shAll l least).map TFeature.en) ∧ M = []) := by
  refine VB Tryz.func142 39 (fun E hE => ?_)
  have a1 := True.intro
  have hclo : Clo (.ro 5 (l.map TFeature.en)) := clo_list TFeature.clo_en
  have hsm : ∀ x ∈ l, x.sm := fun x hx => (hg0 x hx).1
  rcases Bool.eq_false_or_eq_true (isSource l) with hS | hS
  repeat' ((first
    | (refine iAL ?_; first | refine AL.any (h := POp.append (es := ((skA l least i).drop (i + 1)).map TFeature.en) (by rfl) rwk45 (by rfl) (by rfl) (by rfl) (by rfl) (by rfl) (by rfl) (by rfl) (SrcA.subE (by rfl) (by rfl) (by rfl) (by rfl) (by exact hb2) (by exact rdb_en) (by exact sub_cpyE _ _)) (by simp <;> omega) (by simp [maxLen] <;> omega)) ?_ | refine AL.any ?_ | refine AL.any (h := POp.k Tryz.func80 (hc := isSource_i l hl hg0)) ?_ | refine AL.any (h := POp.O Tryz.func168 (hc := cpS_i _ (by assumption) (by assumption))) ?_ | refine AL.any (h := POp.k Tryz.func210 (hc := shrF_i x (oth (skA l least i) i) least hgx hfx hol hog)) ?_ | refine AL.nil ?_)
    | ((with_reducible show DL ..); first | refine DL.any ?_ | refine DL.nil ?_)
    | ((with_reducible show DLR ..); first | refine DLR.call rfl (by rfl) Tryz.func168 (by rfl) (by rfl) (by rfl) (fun Y => vwlT) (cpS_i _ (by assumption) (by assumption)) rfl (by first | exact DCl.b rfl | exact DCl.map (fun _ => rfl) | assumption) rfl rfl ?_ | refine DLR.any ?_ | refine DLR.alloc rfl rfl (by first | exact ze2 | exact ze3 | exact ze4 | exact ze5 | exact ze6 | exact ze7 | exact ze8 | exact ze9 | exact ze10 | exact ze12 | exact ze14 | exact ze15 | exact ze16 | exact ze17 | exact ze19 | exact ze21 | exact ze22 | exact ze23 | exact ze24 | exact ze26 | exact ze27 | exact ze28 | exact ze31 | exact ze32 | exact ze33 | exact ze40 | exact ze42 | exact ze45 | exact ze47 | exact ze79 | exact ze81 | exact ze100 | exact ze135 | exact ze151) rfl rfl ?_ | refine DLR.box rfl rfl (by rfl) (by rfl) rfl rfl ?_ | refine DLR.store rfl rfl (by rfl) rfl rfl rfl rfl rfl (by rfl) (by rfl) (TT_ok.ld _ _ (by rfl)) (by rfl) (by rfl) rfl ?_ | refine DLR.row rfl (fun Y => RowRun.empty (by rfl) (by rfl) (by first | exact rwk22 | exact rwk23 | exact rwk24 | exact rwk31 | exact rwk32 | exact rwk33 | exact rwk40 | exact rwk45 | exact rwk79)) rfl rfl ?_ | refine DLR.row rfl (fun Y => RowRun.literal (by rfl) (by first | exact rwk22 | exact rwk23 | exact rwk24 | exact rwk31 | exact rwk32 | exact rwk33 | exact rwk40 | exact rwk45 | exact rwk79) (by rfl) (by rfl) (by rfl) (by rfl) (by rfl) (by rfl)) rfl rfl ?_ | refine DLR.append rfl (by rfl) (by first | exact rwk22 | exact rwk23 | exact rwk24 | exact rwk31 | exact rwk32 | exact rwk33 | exact rwk40 | exact rwk45 | exact rwk79) (by rfl) rfl rfl rfl rfl rfl rfl (by rfl) (by first | (simp <;> omega) | omega) (by first | (simp [maxLen] <;> omega) | (simp_all [maxLen] <;> omega)) ?_ | refine DLR.nil ?_)
    | (refine iAW ?_; first | (rw [hoth]) | (refine AW.ice /-Ret-/ (id := 0) (es2 := l.map TFeature.en) rfl rfl (DCl.map (fun _ => rfl)) TFeature.und ?_) | (refine AW.freeze /-Ret-/ (t := 8) (id := 2) rfl rfl rfl rfl (clo_rows TFeature.clo_en) ?_; try dsimp only [dput, List.set, cond_true, cond_false, Nat.zero_add, Nat.add_zero, Nat.reduceAdd, splice, List.take, List.drop, List.length, List.nil_append, List.cons_append, List.append, TPoint.en, TSegment.en, TBox.en, TFeature.en, TMeet.en, TPlace.en, TCover.en, TLabel.en, TPiece.en, TLevel.en, TChart.en, TReason.en, TEdit.en, TEntry.en, TEdition.en, TListing.en, TAtlas.en, TEvent.en, TWindow.en]) | (refine AW.freeze /-Ret-/ (t := 4) (id := 0) rfl rfl rfl rfl (clo_rows TFeature.clo_en) ?_; try dsimp only [dput, List.set, cond_true, cond_false, Nat.zero_add, Nat.add_zero, Nat.reduceAdd, splice, List.take, List.drop, List.length, List.nil_append, List.cons_append, List.append, TPoint.en, TSegment.en, TBox.en, TFeature.en, TMeet.en, TPlace.en, TCover.en, TLabel.en, TPiece.en, TLevel.en, TChart.en, TReason.en, TEdit.en, TEntry.en, TEdition.en, TListing.en, TAtlas.en, TEvent.en, TWindow.en]) | (refine AW.c0 ?_; constructor) | refine AW.drawnR (id := 7) 9 1 [some 0, none, none, none, some 0, none, none, none, none] [some Rsv] rfl (by kernel_rfl) (by kernel_rfl) (by kernel_rfl) (by rfl) ?_ | refine AW.cT ?_ | refine AW.cF ?_ | (refine AW.c2 ?_ ?_ <;> (intro h; try simp only [bT, bF] at h)))
    | ((with_reducible show DLR ..); first | refine DLR.any (h := fun Y => POp.quiet (QOp.upto_own (m := i) (by rfl) slk45 (by rfl) (by rfl) (by rfl) (by rfl) (by rfl) (by rfl) (by omega) (by rw [hlm]; omega) (Int.toNat_natCast _))) ?_ | refine DLR.any (h := fun Y => POp.quiet (QOp.from_own (i := i + 1) (m := ((skA l least i).map TFeature.en).length - (i + 1)) (by rfl) slk45 (by rfl) (by rfl) (by rfl) (by rfl) (by rfl) (by rfl) (by rw [w1]; omega) (by rw [w1, hlm]; omega) (by rw [w1]; exact Int.toNat_natCast _) rfl)) ?_ | refine DLR.appendSub rfl (by rfl) rwk45 (by rfl) (by rfl) (by rfl) (by rfl) (by rfl) (by rfl) (by rfl) (by rfl) (by rfl) (by rfl) (by rfl) (by rfl) (by exact hb1) (by exact rdb_en) (by exact sub_cpy0 _ _) (by simp <;> omega) (by simp [maxLen] <;> omega) ?_)
    | (have _ := a1
       clear a1
       refine AW.loopD hE (fun s_ : Nat => [.any, I least, .any, .any, .any, .own 0 0, .any, .any, .any, .any, .any, .any, .any, .any, .any, .own 0 0, I ((l.map TFeature.en).length : Int), I (s_ : Int), .any, .any, .any, .any, .any, .any, .any, .any, .any, .any, .any, .any, .any, .any, .any, .any, .any, .any, .any, .any, .any, .any, .any]) (fun s_ => [some ⟨81, 5, 0, false, (skA l least s_).map TFeature.en⟩]) (fun s_ => l.length - s_) (fun s_ => s_ ≤ l.length) 0 (Nat.zero_le _) ?_ (by first | rfl | (rfl)) ?_
       (focus (exact wkI))
       rintro i hJ
       try dsimp only at hJ
       try dsimp only
       by_cases hlt : i < l.length
       case' pos =>
         have p1 := True.intro
         have hls : (skA l least i).length = l.length := skA_len l least i
         obtain ⟨x, hx⟩ := getD_some (l := (skA l least i)) (i := i) (by omega)
         have hg := map_get (f := TFeature.en) hx
         have hgs := skA_gd least hg0 i
         have hfs := skA_feat least ((src_iff l).1 hS).2.1 i
         have hgx := hgs x (List.mem_of_getElem? hx)
         have hfx := hfs x (List.mem_of_getElem? hx)
         have hset := skA_set (least := least) hx
         have hoth := oth_map (skA l least i) i
         have hol : (oth (skA l least i) i).length ≤ 1048576 := Nat.le_trans (oth_len _ _) (by omega)
         have hog : ∀ o ∈ oth (skA l least i) i, o.gd := fun o ho => hgs o (oth_mem ho)
         have hlm : ((skA l least i).map TFeature.en).length = l.length := by rw [List.length_map, hls]
         have hb1 : 0 + i ≤ ((skA l least i).map TFeature.en).length := by omega
         have hb2 : (i + 1) + (((skA l least i).map TFeature.en).length - (i + 1)) ≤ ((skA l least i).map TFeature.en).length := by omega
         have w1 : IntKind.i64.wrap ((i : Int) + 1) = ((i + 1 : Nat) : Int) := by rw [w64 (by omega) (by omega)]; rfl
         have hcle : Clo (.agg x.en) := Clo.agg x.clo_en
         have hclr : Clo (.agg (shr (oth (skA l least i) i) least x).en) := Clo.agg (TFeature.clo_en _)
         have hclo2 : Clo (.ro 5 ((oth (skA l least i) i).map TFeature.en)) := clo_list TFeature.clo_en
         have ht := lt_true (f := TFeature.en) hlt
         have hn := next_ix hlt (by omega)
       case' neg =>
         have q1 := True.intro
         have ht := lt_false (f := TFeature.en) hlt
         obtain rfl : i = l.length := by omega
         have hres := shAll_t (least := least) hS)
    | with_reducible refine ifP ?_
    | with_reducible refine ifN ?_) <;> (try dsimp only))
  all_goals first
    | (have _ := p1; refine ⟨i + 1, _, hlt, by omega, ?_, by rw [hset] <;> rfl, ?_, ?_⟩; (focus ((repeat' (first | exact Wk.nil | refine Wk.any ?_ | (with_reducible refine Wk.same ?_) | refine Wk.of ?_ ?_)) <;> first | rfl | (rw [hn]; done))); (focus (exact fitsA)); (focus (exact fits_row (clo_rows TFeature.clo_en))))
    | (have _ := q1; exact Fin.one rfl (RV.tmp (by rfl)) (clo_list TFeature.clo_en) ⟨by rw [hres], rfl⟩)
    | (have hres := shAll_f (least := least) hS; exact Fin.one rfl (RV.tmp (by rfl)) (clo_list TFeature.clo_en) ⟨by rw [hres], rfl⟩)

theorem shAll_s (l : List TFeature) (least : Int) (hl : l.length ≤ 1048576) (hg0 : ∀ x ∈ l, x.gd) : VCalls Tryz.prog 136 [.ro 5 (l.map TFeature.en), I least] (fun r M => r = .ro 5 ((shAll l least).map TFeature.en) ∧ M = []) := by
  refine VB Tryz.func136 39 (fun E hE => ?_)
  have a1 := True.intro
  have hclo : Clo (.ro 5 (l.map TFeature.en)) := clo_list TFeature.clo_en
  have hsm : ∀ x ∈ l, x.sm := fun x hx => (hg0 x hx).1
  repeat' ((first
    | (refine iAL ?_; first | refine AL.ice (id := 1) (es2 := ((skA l least i).take i).map TFeature.en) rfl rfl (DCl.map (fun _ => rfl)) TFeature.und ?_ | refine AL.ice (id := 2) (es2 := ((skA l least i).drop (i + 1)).map TFeature.en) rfl rfl (DCl.map (fun _ => rfl)) TFeature.und ?_ | refine AL.any ?_ | refine AL.any (h := POp.k Tryz.func202 (hc := shrF_s x (oth (skA l least i) i) least hgx hfx hol hog)) ?_ | refine AL.U ?_ | refine AL.F ?_ | refine AL.T ?_ | refine AL.T (h := POp.k Tryz.func78 (hc := isSource_s l hl hg0)) ?_ | refine AL.W ?_ | refine AL.W (h := fun h => by (try rw [h]); exact POp.k Tryz.func78 (hc := isSource_s l hl hg0)) ?_ | refine AL.nil ?_)
    | ((with_reducible show DL ..); first | refine DL.any ?_ | refine DL.nil ?_)
    | ((with_reducible show DLR ..); first | refine DLR.any ?_ | refine DLR.alloc rfl rfl (by first | exact ze2 | exact ze3 | exact ze4 | exact ze5 | exact ze6 | exact ze7 | exact ze9 | exact ze10 | exact ze12 | exact ze13 | exact ze14 | exact ze16 | exact ze17 | exact ze18 | exact ze19 | exact ze24 | exact ze25 | exact ze31 | exact ze32 | exact ze33 | exact ze34 | exact ze40 | exact ze45 | exact ze47 | exact ze79 | exact ze81 | exact ze100 | exact ze132 | exact ze135 | exact ze151) rfl rfl ?_ | refine DLR.box rfl rfl (by rfl) (by rfl) rfl rfl ?_ | refine DLR.store rfl rfl (by rfl) rfl rfl rfl rfl rfl (by rfl) (by rfl) (TT_ok.ld _ _ (by rfl)) (by rfl) (by rfl) rfl ?_ | refine DLR.row rfl (fun Y => RowRun.empty (by rfl) (by rfl) (by first | exact rwk24 | exact rwk31 | exact rwk32 | exact rwk33 | exact rwk40 | exact rwk45 | exact rwk79)) rfl rfl ?_ | refine DLR.row rfl (fun Y => RowRun.literal (by rfl) (by first | exact rwk24 | exact rwk31 | exact rwk32 | exact rwk33 | exact rwk40 | exact rwk45 | exact rwk79) (by rfl) (by rfl) (by rfl) (by rfl) (by rfl) (by rfl)) rfl rfl ?_ | refine DLR.append rfl (by rfl) (by first | exact rwk24 | exact rwk31 | exact rwk32 | exact rwk33 | exact rwk40 | exact rwk45 | exact rwk79) (by rfl) rfl rfl rfl rfl rfl rfl (by rfl) (by first | (simp <;> omega) | omega) (by first | (simp [maxLen] <;> omega) | (simp_all [maxLen] <;> omega)) ?_ | refine DLR.nil ?_)
    | (refine iAW ?_; first | (rw [hoth]) | (refine AW.ice /-Ret-/ (id := 0) (es2 := l.map TFeature.en) rfl rfl (DCl.map (fun _ => rfl)) TFeature.und ?_) | (refine AW.freeze /-Ret-/ (t := 7) (id := 1) rfl rfl rfl rfl (clo_rows TFeature.clo_en) ?_; try dsimp only [dput, List.set, cond_true, cond_false, Nat.zero_add, Nat.add_zero, Nat.reduceAdd, splice, List.take, List.drop, List.length, List.nil_append, List.cons_append, List.append, TPoint.en, TSegment.en, TBox.en, TFeature.en, TMeet.en, TPlace.en, TCover.en, TLabel.en, TPiece.en, TLevel.en, TChart.en, TReason.en, TEdit.en, TEntry.en, TEdition.en, TListing.en, TAtlas.en, TEvent.en, TWindow.en]) | (refine AW.freeze /-Ret-/ (t := 4) (id := 0) rfl rfl rfl rfl (clo_rows TFeature.clo_en) ?_; try dsimp only [dput, List.set, cond_true, cond_false, Nat.zero_add, Nat.add_zero, Nat.reduceAdd, splice, List.take, List.drop, List.length, List.nil_append, List.cons_append, List.append, TPoint.en, TSegment.en, TBox.en, TFeature.en, TMeet.en, TPlace.en, TCover.en, TLabel.en, TPiece.en, TLevel.en, TChart.en, TReason.en, TEdit.en, TEntry.en, TEdition.en, TListing.en, TAtlas.en, TEvent.en, TWindow.en]) | (refine AW.c0 ?_; constructor) | refine AW.drawnR (id := 5) 8 1 [none, none, none, some 0, none, none, none, none] [some Rsv] rfl (by kernel_rfl) (by kernel_rfl) (by kernel_rfl) (by rfl) ?_ | refine AW.cT ?_ | refine AW.cF ?_ | (refine AW.c2 ?_ ?_ <;> (intro h; try simp only [bT, bF] at h)))
    | (refine ?_; first | (refine AL.any (h := POp.O Tryz.func166 (hc := cpS_s ((skA l least i).drop (i + 1)) hlt2 hsm2) (hvw := VwL.cons (View.subC (by rfl) (by rfl) (by rfl) (by rfl) (by exact clo_rows TFeature.clo_en) (by exact hb2) (by exact sub_enE _ _)) VwL.nil)) ?_) | (refine AL.any (h := POp.O Tryz.func166 (hc := cpS_s l (by assumption) (by assumption))) ?_))
    | ((with_reducible show DLR ..); first | refine DLR.any (h := fun Y => POp.quiet (QOp.upto_own (m := i) (by rfl) slk45 (by rfl) (by rfl) (by rfl) (by rfl) (by rfl) (by rfl) (by omega) (by rw [hlm]; omega) (Int.toNat_natCast _))) ?_ | refine DLR.any (h := fun Y => POp.quiet (QOp.from_own (i := i + 1) (m := ((skA l least i).map TFeature.en).length - (i + 1)) (by rfl) slk45 (by rfl) (by rfl) (by rfl) (by rfl) (by rfl) (by rfl) (by rw [w1]; omega) (by rw [w1, hlm]; omega) (by rw [w1]; exact Int.toNat_natCast _) rfl)) ?_ | refine DLR.call rfl (by rfl) Tryz.func166 (by rfl) (by rfl) (by rfl) (fun Y => VwL.cons (View.subC (by rfl) (by rfl) (by rfl) (by rfl) (by exact clo_rows TFeature.clo_en) (by first | exact hb1 | exact hb2) (by exact (sub_en0 _ _))) VwL.nil) (cpS_s ((skA l least i).take i) hlt1 hsm1) rfl (DCl.map (fun _ => rfl)) rfl rfl ?_ | refine DLR.call rfl (by rfl) Tryz.func166 (by rfl) (by rfl) (by rfl) (fun Y => VwL.cons (View.subC (by rfl) (by rfl) (by rfl) (by rfl) (by exact clo_rows TFeature.clo_en) (by first | exact hb1 | exact hb2) (by exact (sub_enE _ _))) VwL.nil) (cpS_s ((skA l least i).drop (i + 1)) hlt2 hsm2) rfl (DCl.map (fun _ => rfl)) rfl rfl ?_)
    | (have _ := a1
       clear a1
       refine AW.loopD hE (fun s_ : Nat => [.ro 5 (l.map TFeature.en), I least, .any, .any, .any, .own 0 0, I (s_ : Int), .any, .any, .any, .any, .any, .any, .any, .any, .any, .any, .any, .any, .any, .any, .any, .any, .any, .any, .any, .any, .any, .any, .any, .any, .any, .any, .any, .any, .any, .any, .any, .any, .any, .any]) (fun s_ => [some ⟨81, 5, 0, false, (skA l least s_).map TFeature.en⟩]) (fun s_ => l.length - s_) (fun s_ => s_ ≤ l.length ∧ (isSource l = true ∨ s_ = 0)) 0 ⟨Nat.zero_le _, .inr rfl⟩ ?_ (by first | rfl | (rfl)) ?_
       (focus (exact wkI))
       rintro i hJ
       try dsimp only at hJ
       try dsimp only
       by_cases hlt : i < l.length ∧ isSource l = true
       case' pos =>
         have p1 := True.intro
         obtain ⟨hlt, hS⟩ := hlt
         have hls : (skA l least i).length = l.length := skA_len l least i
         obtain ⟨x, hx⟩ := getD_some (l := (skA l least i)) (i := i) (by omega)
         have hg := map_get (f := TFeature.en) hx
         have hgs := skA_gd least hg0 i
         have hfs := skA_feat least ((src_iff l).1 hS).2.1 i
         have hgx := hgs x (List.mem_of_getElem? hx)
         have hfx := hfs x (List.mem_of_getElem? hx)
         have hset := skA_set (least := least) hx
         have hoth := oth_map (skA l least i) i
         have hol : (oth (skA l least i) i).length ≤ 1048576 := Nat.le_trans (oth_len _ _) (by omega)
         have hog : ∀ o ∈ oth (skA l least i) i, o.gd := fun o ho => hgs o (oth_mem ho)
         have hlm : ((skA l least i).map TFeature.en).length = l.length := by rw [List.length_map, hls]
         have hb1 : 0 + i ≤ ((skA l least i).map TFeature.en).length := by omega
         have hb2 : (i + 1) + (((skA l least i).map TFeature.en).length - (i + 1)) ≤ ((skA l least i).map TFeature.en).length := by omega
         have w1 : IntKind.i64.wrap ((i : Int) + 1) = ((i + 1 : Nat) : Int) := by rw [w64 (by omega) (by omega)]; rfl
         have hcle : Clo (.agg x.en) := Clo.agg x.clo_en
         have hclr : Clo (.agg (shr (oth (skA l least i) i) least x).en) := Clo.agg (TFeature.clo_en _)
         have hclo2 : Clo (.ro 5 ((oth (skA l least i) i).map TFeature.en)) := clo_list TFeature.clo_en
         have hlt1 : ((skA l least i).take i).length ≤ 1048576 := by rw [List.length_take]; omega
         have hlt2 : ((skA l least i).drop (i + 1)).length ≤ 1048576 := by rw [List.length_drop]; omega
         have hsm1 : ∀ x ∈ (skA l least i).take i, x.sm := fun x hx => (hgs x (List.mem_of_mem_take hx)).1
         have hsm2 : ∀ x ∈ (skA l least i).drop (i + 1), x.sm := fun x hx => (hgs x (List.mem_of_mem_drop hx)).1
         have ht : decide ((i : Int) < (((skA l least i).map TFeature.en).length : Int)) = true := by rw [hlm]; simp; omega
         have hn := w1
       case' neg =>
         have q1 := True.intro
         have hls : (skA l least i).length = l.length := skA_len l least i
         have hlm : ((skA l least i).map TFeature.en).length = l.length := by rw [List.length_map, hls]
         rcases Bool.eq_false_or_eq_true (isSource l) with hS | hS
         case' inl =>
           have ei : i = l.length := by have : ¬ i < l.length := fun hh => hlt ⟨hh, hS⟩; omega
           have ht : decide ((i : Int) < (((skA l least i).map TFeature.en).length : Int)) = false := by rw [hlm]; simp; omega
           have hres : shAll l least = (skA l least i) := by rw [shAll_t hS, ei]
         case' inr =>
           have ei : i = 0 := by rcases hJ.2 with hh | hh; (rw [hh] at hS; cases hS); exact hh
           have hres : shAll l least = (skA l least i) := by rw [shAll_f hS, ei]; rfl
           rcases Bool.eq_false_or_eq_true (decide ((i : Int) < (((skA l least i).map TFeature.en).length : Int))) with ht | ht)
    | with_reducible refine ifP ?_
    | with_reducible refine ifN ?_) <;> (try dsimp only))
  all_goals first
    | (have _ := p1; refine ⟨i + 1, _, ⟨hlt, .inl hS⟩, by omega, ?_, by rw [hset] <;> rfl, ?_, ?_⟩; (focus ((repeat' (first | exact Wk.nil | refine Wk.any ?_ | (with_reducible refine Wk.same ?_) | refine Wk.of ?_ ?_)) <;> first | rfl | (rw [hn]; done))); (focus (exact fitsA)); (focus (exact fits_row (clo_rows TFeature.clo_en))))
    | (have _ := q1; exact Fin.one rfl (RV.tmp (by rfl)) (clo_list TFeature.clo_en) ⟨by rw [hres], rfl⟩)

end Go.Proofs.YtpffahmmklpifaaGreat.Abs

/- Labels sorted by the library's sort. -/
namespace Go.Proofs.YtpffahmmklpifaaGreat.Abs
open Go.Proofs Go.RowKit
set_option linter.unusedVariables false
set_option linter.unusedSimpArgs false
set_option maxRecDepth 100000
set_option maxHeartbeats 2000000
attribute [local irreducible] OpA AL AW DL DLM DLR DLS QOp POp VCalls VCallsI
open Go.Shelf Go.Lib Go.Sort
set_option maxHeartbeats 2000000 in
set_option maxRecDepth 100000 in
theorem cmpL_calls (x y : TLabel) (W : World) : Calls Tryz.prog 216 #[.agg #[.int .i64 x.id, .string x.name, .int .i64 x.box.low.x, .int .i64 x.box.low.y, .int .i64 x.box.high.x, .int .i64 x.box.high.y], .agg #[.int .i64 y.id, .string y.name, .int .i64 y.box.low.x, .int .i64 y.box.low.y, .int .i64 y.box.high.x, .int .i64 y.box.high.y]] W fun e w' => e = .returned (.int .i64 (cmpZ x.id y.id)) ∧ ∃ q os', w' = grow (W.drewN q) os' := by
  have mixed : Tryz.prog.follows .mixedOrders = true := by kernel_rfl
  have hc : ∀ w, Calls Tryz.prog 128 #[.int .i64 x.id, .int .i64 y.id] w fun e w' => e = .returned (.int .i64 (cmpZ x.id y.id)) ∧ w' = w := fun w => Tryz.cmp_Compare_int x.id y.id w
  generalize cmpZ x.id y.id = z at hc
  have eC : ∀ args w, (callFunc 128 args).run Tryz.prog w = .ok (.enter 128 args) w := enters_of Tryz.func128 (by kernel_rfl) rfl
  go_enter Tryz.func216, Tryz.ntmps216
  go_wp2_with (go_at_fn 128; (with_reducible refine (hc _).mono ?_); rintro e w' ⟨rfl, rfl⟩)
  go_ret
  exact ⟨rfl, 0, _, by simp only [alloc_eq_grow, grow_grow, World.drewN_zero]; rfl⟩
theorem cmpL_calls' (x y : TLabel) (a b : Int) (ha : x.id = a) (hb : y.id = b) (W : World) : Calls Tryz.prog 216 #[.agg #[.int .i64 x.id, .string x.name, .int .i64 x.box.low.x, .int .i64 x.box.low.y, .int .i64 x.box.high.x, .int .i64 x.box.high.y], .agg #[.int .i64 y.id, .string y.name, .int .i64 y.box.low.x, .int .i64 y.box.low.y, .int .i64 y.box.high.x, .int .i64 y.box.high.y]] W fun e w' => e = .returned (.int .i64 (cmpZ a b)) ∧ ∃ q os', w' = grow (W.drewN q) os' := by
  subst ha hb
  exact cmpL_calls x y W
abbrev vLb (x : TLabel) : List Value := [.int .i64 x.id, .string x.name, .int .i64 x.box.low.x, .int .i64 x.box.low.y, .int .i64 x.box.high.x, .int .i64 x.box.high.y]
theorem vLb_one (x : TLabel) : ∀ v ∈ vLb x, v.oneCell' = true := fun v hv => by
  simp [vLb] at hv
  rcases hv with rfl | rfl | rfl | rfl | rfl | rfl <;> rfl
theorem ltI_iff (x y : Int) : ltOf cmpZ x y = decide (x < y) := by
  unfold ltOf cmpZ
  repeat' split
  all_goals simp <;> omega
theorem swoI : SWO (ltOf cmpZ) where
  irrefl x := by rw [ltI_iff]; simp
  trans x y z h1 h2 := by rw [ltI_iff] at *; simp at *; omega
  ntrans x y z h1 h2 := by rw [ltI_iff] at *; simp at *; omega
theorem mrg_eq (l : List Int) : (l.mergeSort fun x y => !decide (cmpZ y x < 0)) = l.mergeSort fun x y => decide (x ≤ y) := by
  have e : (fun x y : Int => !decide (cmpZ y x < 0)) = fun x y => decide (x ≤ y) := by
    funext x y
    have := ltI_iff y x
    unfold ltOf at this
    rw [this]
    by_cases h : x ≤ y <;> simp [h] <;> omega
  rw [e]
theorem sort_look (look : Int → TLabel) (hlk : ∀ k, (look k).id = k) (ids : List Int) (hl : ids.length ≤ 1048576) : ACalls Tryz.prog 215 [.own 0 0, .fn 216 []] [some ⟨174, 6, 0, false, ids.map fun k => (look k).en⟩] (fun r M' => r = .c (.tuple #[]) ∧ ∃ Mx, M' = [⟨174, 6, 0, false, (ids.mergeSort fun x y => decide (x ≤ y)).map fun k => (look k).en⟩].map some ++ Mx) :=
  sort_k (fun k => (look k).en) (fun k => vLb (look k)) (fun _ => rfl) (fun _ => rfl) (fun x => vLb_one _) ids (ids.mergeSort fun x y => decide (x ≤ y)) (List.length_mergeSort _) (by omega)
    (fun blk cap w hH hb => by
      have h := AnyQ.slices_SortFunc_total Tryz.laysSortL 6 Tryz.isAgg174 Tryz.sizeOf174 (fun k => vLb (look k)) (fun _ => rfl) (fun x => vLb_one _) cmpZ swoI 216 #[] blk 0 cap ids.toArray w (enters_of Tryz.func216 (by kernel_rfl) rfl) (fun _ _ _ _ x y => cmpL_calls' (look x) (look y) x y (hlk x) (hlk y) _) hH hb (by simp; omega) (fun x y h1 h2 => by
        rw [ltI_iff] at h1 h2
        simp at h1 h2
        omega)
      rw [← mrg_eq]
      exact h)
    (fun p cap fv w => AnyF.slices_SortFunc_none Tryz.laysSortL p cap fv w)
theorem sortL (L : List TLabel) (hd : (L.map (·.id)).Pairwise (· ≠ ·)) (hl : L.length ≤ 1048576) : ACalls Tryz.prog 215 [.own 0 0, .fn 216 []] [some ⟨174, 6, 0, false, L.map TLabel.en⟩] (fun r M' => r = .c (.tuple #[]) ∧ ∃ Mx, M' = [⟨174, 6, 0, false, (srtL L).map TLabel.en⟩].map some ++ Mx) := by
  have h := sort_look (lookL L) (lookL_id L) (L.map (·.id)) (by rw [List.length_map]; exact hl)
  have e1 : ((L.map (·.id)).mergeSort fun x y => decide (x ≤ y)).map (fun k => (lookL L k).en) = (srtL L).map TLabel.en := by
    rw [← srtL_merge hd, List.map_map]; rfl
  rw [look_all hd, e1] at h
  exact h

end Go.Proofs.YtpffahmmklpifaaGreat.Abs

/- The walks of labels and their boxes. -/
namespace Go.Proofs.YtpffahmmklpifaaGreat.Abs
open Go.Proofs Go.RowKit
set_option linter.unusedVariables false
set_option linter.unusedSimpArgs false
set_option maxRecDepth 100000
set_option maxHeartbeats 2000000
attribute [local irreducible] OpA AL AW DL DLM DLR DLS QOp POp VCalls VCallsI
theorem ov_s (a b : TBox) : VCalls Tryz.prog 218 [.agg a.en, .agg b.en] (fun r M => r = B (ovB a b) ∧ M = []) := by
  refine VB Tryz.func218 43 (fun E hE => ?_)
  dsimp only [TPoint.en, TBox.en]
  repeat' ((first
    | (refine iAL ?_; first | refine AL.any ?_ | refine AL.U ?_ | refine AL.F ?_ | refine AL.T ?_ | refine AL.T (h := POp.k Tryz.func175 (hc := min_s _ _)) ?_ | refine AL.W ?_ | refine AL.W (h := fun h => by (try rw [h]); exact POp.k Tryz.func175 (hc := min_s _ _)) ?_ | refine AL.nil ?_)
    | ((with_reducible show DL ..); first | refine DL.any ?_ | refine DL.any (h := POp.k Tryz.func241 (hc := by first | exact isBox_s b | exact isBox_s a)) ?_ | refine DL.U ?_ | refine DL.F ?_ | refine DL.T ?_ | refine DL.T (h := POp.k Tryz.func175 (hc := min_s _ _)) ?_ | refine DL.T (h := POp.k Tryz.func222 (hc := max_s _ _)) ?_ | refine DL.T (h := POp.k Tryz.func241 (hc := by first | exact isBox_s b | exact isBox_s a)) ?_ | refine DL.W ?_ | refine DL.W (h := fun h => by (try rw [h]); exact POp.k Tryz.func175 (hc := min_s _ _)) ?_ | refine DL.W (h := fun h => by (try rw [h]); exact POp.k Tryz.func222 (hc := max_s _ _)) ?_ | refine DL.W (h := fun h => by (try rw [h]); exact POp.k Tryz.func241 (hc := by first | exact isBox_s b | exact isBox_s a)) ?_ | refine DL.nil ?_)
    | (refine iAW ?_; first | (refine AW.c0 ?_; constructor) | refine AW.dr (id := 1) 37 ?_)) <;> (try dsimp only))
  all_goals exact Fin.one rfl (RV.tmp (by rfl)) (clo_c _) ⟨by first | rfl | (simp only [ovB, Bool.and_assoc]; done), rfl⟩

theorem ov_i0 (a b : TBox) : VCalls Tryz.prog 219 [.agg a.en, .agg b.en] (fun r M => r = B (ovI a b) ∧ M = []) := by
  refine VB Tryz.func219 25 (fun E hE => ?_)
  dsimp only [TPoint.en, TBox.en]
  repeat' ((first
    | (refine iAL ?_; first | refine AL.any ?_ | refine AL.any (h := POp.k Tryz.func250 (hc := by first | exact isBox_i b | exact isBox_i a)) ?_ | refine AL.any (h := POp.k Tryz.func286 (hc := com_i a b)) ?_ | refine AL.U ?_ | refine AL.F ?_ | refine AL.T ?_ | refine AL.T (h := POp.k Tryz.func250 (hc := by first | exact isBox_i b | exact isBox_i a)) ?_ | refine AL.W ?_ | refine AL.W (h := fun h => by (try rw [h]); exact POp.k Tryz.func250 (hc := by first | exact isBox_i b | exact isBox_i a)) ?_ | refine AL.nil ?_)
    | (refine iAW ?_; first | (refine AW.c0 ?_; constructor))) <;> (try dsimp only))
  all_goals exact Fin.one rfl (RV.tmp (by rfl)) (clo_c _) ⟨by first | rfl | (simp only [ovI, Bool.and_assoc]; done), rfl⟩

theorem ov_i (a b : TBox) : VCalls Tryz.prog 219 [.agg a.en, .agg b.en] (fun r M => r = B (ovB a b) ∧ M = []) := ovI_eq a b ▸ ov_i0 a b
theorem nw_s (s : ByteArray) (hs : isName s = true) : VCalls Tryz.prog 274 [S s] (fun r M => r = I (2 * (s.size : Int)) ∧ M = []) := by
  refine VB Tryz.func274 8 (fun E hE => ?_)
  have hm := name_max hs
  have hb := name_len hs
  repeat' ((first
    | (refine iAL ?_; first | refine AL.any ?_ | refine AL.any (h := POp.k Tryz.func169 (hc := isName_s s hm)) ?_ | refine AL.nil ?_)
    | (refine iAW ?_; first | (refine AW.c0 ?_; constructor) | refine AW.cT ?_ | refine AW.cF ?_ | (refine AW.c2 ?_ ?_ <;> (intro h; try simp only [bT, bF] at h)))) <;> (try dsimp only))
  all_goals exact Fin.one rfl (RV.tmp (by rfl)) (clo_c _) ⟨by rw [w64 (by omega) (by omega)], rfl⟩

theorem lab_s0 (p : TPoint) (s : ByteArray) (hp : isp p.x p.y = true) (hs : isName s = true) : VCalls Tryz.prog 206 [.agg p.en, S s, I 0] (fun r M => r = .tup [.agg (labB p s 0).en, B (lbOk p s 0)] ∧ M = []) := by
  refine VB Tryz.func206 61 (fun E hE => ?_)
  dsimp only [TPoint.en, TBox.en]
  have hm := name_max hs
  have hb := name_len hs
  have h03 : inr 0 0 3 = true := rfl
  rcases Bool.eq_false_or_eq_true (isBoxB (lbx p s 0)) with hbx | hbx
  repeat' ((first
    | (refine iAL ?_; first | refine AL.any ?_ | refine AL.any (h := POp.k Tryz.func170 (hc := by first | exact isp_s_t _ _ (by assumption) | exact isp_s_f _ _ (by assumption) | exact isp_s _ _)) ?_ | refine AL.any (h := POp.k Tryz.func241 (hc := isBox_s (lbx p s 0))) ?_ | refine AL.U ?_ | refine AL.F ?_ | refine AL.T ?_ | refine AL.T (h := POp.k Tryz.func96 (hc := inr_s _ _ _)) ?_ | refine AL.T (h := POp.k Tryz.func169 (hc := isName_s s hm)) ?_ | refine AL.W ?_ | refine AL.W (h := fun h => by (try rw [h]); exact POp.k Tryz.func96 (hc := inr_s _ _ _)) ?_ | refine AL.W (h := fun h => by (try rw [h]); exact POp.k Tryz.func169 (hc := isName_s s hm)) ?_ | refine AL.nil ?_)
    | ((with_reducible show DL ..); first | refine DL.any ?_ | refine DL.any (h := POp.k Tryz.func274 (hc := nw_s s (by assumption))) ?_ | refine DL.nil ?_)
    | ((with_reducible show DLM ..); first | refine DLM.any ?_ | refine DLM.mk ?_ | refine DLM.any (h := fun Y => POp.k Tryz.func274 (hc := nw_s s (by assumption))) ?_ | refine DLM.nil ?_)
    | (refine iAW ?_; first | (refine AW.c0 ?_; constructor) | refine AW.drM (id := 3) 12 11 ?_ | refine AW.dr (id := 5) 4 ?_ | refine AW.cT ?_ | refine AW.cF ?_ | (refine AW.c2 ?_ ?_ <;> (intro h; try simp only [bT, bF] at h)))) <;> (try dsimp only))
  all_goals exact Fin.two rfl (RV.cell (QOp.quietA TT_ok (by rfl))) (RV.tmp (by rfl)) (clo_of (by rfl)) ⟨by first | (rw [labB, lbOk, if_pos hbx, hbx] <;> rfl) | (rw [labB, lbOk, if_neg (by rw [hbx]; decide), hbx] <;> rfl), rfl⟩

theorem lab_s1 (p : TPoint) (s : ByteArray) (hp : isp p.x p.y = true) (hs : isName s = true) : VCalls Tryz.prog 206 [.agg p.en, S s, I 1] (fun r M => r = .tup [.agg (labB p s 1).en, B (lbOk p s 1)] ∧ M = []) := by
  refine VB Tryz.func206 61 (fun E hE => ?_)
  dsimp only [TPoint.en, TBox.en]
  have hm := name_max hs
  have hb := name_len hs
  have h03 : inr 1 0 3 = true := rfl
  rcases Bool.eq_false_or_eq_true (isBoxB (lbx p s 1)) with hbx | hbx
  repeat' ((first
    | (refine iAL ?_; first | refine AL.any ?_ | refine AL.any (h := POp.k Tryz.func170 (hc := by first | exact isp_s_t _ _ (by assumption) | exact isp_s_f _ _ (by assumption) | exact isp_s _ _)) ?_ | refine AL.any (h := POp.k Tryz.func241 (hc := isBox_s (lbx p s 1))) ?_ | refine AL.U ?_ | refine AL.F ?_ | refine AL.T ?_ | refine AL.T (h := POp.k Tryz.func96 (hc := inr_s _ _ _)) ?_ | refine AL.T (h := POp.k Tryz.func169 (hc := isName_s s hm)) ?_ | refine AL.W ?_ | refine AL.W (h := fun h => by (try rw [h]); exact POp.k Tryz.func96 (hc := inr_s _ _ _)) ?_ | refine AL.W (h := fun h => by (try rw [h]); exact POp.k Tryz.func169 (hc := isName_s s hm)) ?_ | refine AL.nil ?_)
    | ((with_reducible show DL ..); first | refine DL.any ?_ | refine DL.any (h := POp.k Tryz.func274 (hc := nw_s s (by assumption))) ?_ | refine DL.nil ?_)
    | ((with_reducible show DLM ..); first | refine DLM.any ?_ | refine DLM.mk ?_ | refine DLM.any (h := fun Y => POp.k Tryz.func274 (hc := nw_s s (by assumption))) ?_ | refine DLM.nil ?_)
    | (refine iAW ?_; first | (refine AW.c0 ?_; constructor) | refine AW.drM (id := 3) 12 11 ?_ | refine AW.dr (id := 5) 4 ?_ | refine AW.cT ?_ | refine AW.cF ?_ | (refine AW.c2 ?_ ?_ <;> (intro h; try simp only [bT, bF] at h)))) <;> (try dsimp only))
  all_goals exact Fin.two rfl (RV.cell (QOp.quietA TT_ok (by rfl))) (RV.tmp (by rfl)) (clo_of (by rfl)) ⟨by first | (rw [labB, lbOk, if_pos hbx, hbx] <;> rfl) | (rw [labB, lbOk, if_neg (by rw [hbx]; decide), hbx] <;> rfl), rfl⟩

theorem lab_s2 (p : TPoint) (s : ByteArray) (hp : isp p.x p.y = true) (hs : isName s = true) : VCalls Tryz.prog 206 [.agg p.en, S s, I 2] (fun r M => r = .tup [.agg (labB p s 2).en, B (lbOk p s 2)] ∧ M = []) := by
  refine VB Tryz.func206 61 (fun E hE => ?_)
  dsimp only [TPoint.en, TBox.en]
  have hm := name_max hs
  have hb := name_len hs
  have h03 : inr 2 0 3 = true := rfl
  rcases Bool.eq_false_or_eq_true (isBoxB (lbx p s 2)) with hbx | hbx
  repeat' ((first
    | (refine iAL ?_; first | refine AL.any ?_ | refine AL.any (h := POp.k Tryz.func170 (hc := by first | exact isp_s_t _ _ (by assumption) | exact isp_s_f _ _ (by assumption) | exact isp_s _ _)) ?_ | refine AL.any (h := POp.k Tryz.func241 (hc := isBox_s (lbx p s 2))) ?_ | refine AL.U ?_ | refine AL.F ?_ | refine AL.T ?_ | refine AL.T (h := POp.k Tryz.func96 (hc := inr_s _ _ _)) ?_ | refine AL.T (h := POp.k Tryz.func169 (hc := isName_s s hm)) ?_ | refine AL.W ?_ | refine AL.W (h := fun h => by (try rw [h]); exact POp.k Tryz.func96 (hc := inr_s _ _ _)) ?_ | refine AL.W (h := fun h => by (try rw [h]); exact POp.k Tryz.func169 (hc := isName_s s hm)) ?_ | refine AL.nil ?_)
    | ((with_reducible show DL ..); first | refine DL.any ?_ | refine DL.any (h := POp.k Tryz.func274 (hc := nw_s s (by assumption))) ?_ | refine DL.nil ?_)
    | ((with_reducible show DLM ..); first | refine DLM.any ?_ | refine DLM.mk ?_ | refine DLM.any (h := fun Y => POp.k Tryz.func274 (hc := nw_s s (by assumption))) ?_ | refine DLM.nil ?_)
    | (refine iAW ?_; first | (refine AW.c0 ?_; constructor) | refine AW.drM (id := 3) 12 11 ?_ | refine AW.dr (id := 5) 4 ?_ | refine AW.cT ?_ | refine AW.cF ?_ | (refine AW.c2 ?_ ?_ <;> (intro h; try simp only [bT, bF] at h)))) <;> (try dsimp only))
  all_goals exact Fin.two rfl (RV.cell (QOp.quietA TT_ok (by rfl))) (RV.tmp (by rfl)) (clo_of (by rfl)) ⟨by first | (rw [labB, lbOk, if_pos hbx, hbx] <;> rfl) | (rw [labB, lbOk, if_neg (by rw [hbx]; decide), hbx] <;> rfl), rfl⟩

theorem lab_s3 (p : TPoint) (s : ByteArray) (hp : isp p.x p.y = true) (hs : isName s = true) : VCalls Tryz.prog 206 [.agg p.en, S s, I 3] (fun r M => r = .tup [.agg (labB p s 3).en, B (lbOk p s 3)] ∧ M = []) := by
  refine VB Tryz.func206 61 (fun E hE => ?_)
  dsimp only [TPoint.en, TBox.en]
  have hm := name_max hs
  have hb := name_len hs
  have h03 : inr 3 0 3 = true := rfl
  rcases Bool.eq_false_or_eq_true (isBoxB (lbx p s 3)) with hbx | hbx
  repeat' ((first
    | (refine iAL ?_; first | refine AL.any ?_ | refine AL.any (h := POp.k Tryz.func170 (hc := by first | exact isp_s_t _ _ (by assumption) | exact isp_s_f _ _ (by assumption) | exact isp_s _ _)) ?_ | refine AL.any (h := POp.k Tryz.func241 (hc := isBox_s (lbx p s 3))) ?_ | refine AL.U ?_ | refine AL.F ?_ | refine AL.T ?_ | refine AL.T (h := POp.k Tryz.func96 (hc := inr_s _ _ _)) ?_ | refine AL.T (h := POp.k Tryz.func169 (hc := isName_s s hm)) ?_ | refine AL.W ?_ | refine AL.W (h := fun h => by (try rw [h]); exact POp.k Tryz.func96 (hc := inr_s _ _ _)) ?_ | refine AL.W (h := fun h => by (try rw [h]); exact POp.k Tryz.func169 (hc := isName_s s hm)) ?_ | refine AL.nil ?_)
    | ((with_reducible show DL ..); first | refine DL.any ?_ | refine DL.any (h := POp.k Tryz.func274 (hc := nw_s s (by assumption))) ?_ | refine DL.nil ?_)
    | ((with_reducible show DLM ..); first | refine DLM.any ?_ | refine DLM.mk ?_ | refine DLM.any (h := fun Y => POp.k Tryz.func274 (hc := nw_s s (by assumption))) ?_ | refine DLM.nil ?_)
    | (refine iAW ?_; first | (refine AW.c0 ?_; constructor) | refine AW.drM (id := 3) 12 11 ?_ | refine AW.dr (id := 5) 4 ?_ | refine AW.cT ?_ | refine AW.cF ?_ | (refine AW.c2 ?_ ?_ <;> (intro h; try simp only [bT, bF] at h)))) <;> (try dsimp only))
  all_goals exact Fin.two rfl (RV.cell (QOp.quietA TT_ok (by rfl))) (RV.tmp (by rfl)) (clo_of (by rfl)) ⟨by first | (rw [labB, lbOk, if_pos hbx, hbx] <;> rfl) | (rw [labB, lbOk, if_neg (by rw [hbx]; decide), hbx] <;> rfl), rfl⟩

theorem lab_s (p : TPoint) (s : ByteArray) (k : Int) (hp : isp p.x p.y = true) (hs : isName s = true) (hk : inr k 0 3 = true) : VCalls Tryz.prog 206 [.agg p.en, S s, I k] (fun r M => r = .tup [.agg (labB p s k).en, B (lbOk p s k)] ∧ M = []) := by
  rcases in03 hk with rfl | rfl | rfl | rfl
  · exact lab_s0 p s hp hs
  · exact lab_s1 p s hp hs
  · exact lab_s2 p s hp hs
  · exact lab_s3 p s hp hs
theorem nw_i (s : ByteArray) (hs : isName s = true) : VCalls Tryz.prog 284 [S s] (fun r M => r = I (2 * (s.size : Int)) ∧ M = []) := by
  refine VB Tryz.func284 8 (fun E hE => ?_)
  have hm := name_max hs
  have hb := name_len hs
  repeat' ((first
    | (refine iAL ?_; first | refine AL.any ?_ | refine AL.any (h := POp.k Tryz.func179 (hc := isName_i s hm)) ?_ | refine AL.nil ?_)
    | (refine iAW ?_; first | (refine AW.c0 ?_; constructor) | refine AW.cT ?_ | refine AW.cF ?_ | (refine AW.c2 ?_ ?_ <;> (intro h; try simp only [bT, bF] at h)))) <;> (try dsimp only))
  all_goals exact Fin.one rfl (RV.tmp (by rfl)) (clo_c _) ⟨by rw [w64 (by omega) (by omega)], rfl⟩

theorem lab_i0 (p : TPoint) (s : ByteArray) (hp : isp p.x p.y = true) (hs : isName s = true) : VCalls Tryz.prog 214 [.agg p.en, S s, I 0] (fun r M => r = .tup [.agg (labB p s 0).en, B (lbOk p s 0)] ∧ M = []) := by
  refine VB Tryz.func214 61 (fun E hE => ?_)
  dsimp only [TPoint.en, TBox.en]
  have hm := name_max hs
  have hb := name_len hs
  have h03 : inr 0 0 3 = true := rfl
  rcases Bool.eq_false_or_eq_true (isBoxB (lbx p s 0)) with hbx | hbx
  repeat' ((first
    | (refine iAL ?_; first | refine AL.any ?_ | refine AL.any (h := POp.k Tryz.func180 (hc := by first | exact isp_v_t _ _ (by assumption) | exact isp_v_f _ _ (by assumption) | exact isp_v _ _)) ?_ | refine AL.any (h := POp.k Tryz.func250 (hc := isBox_i (lbx p s 0))) ?_ | refine AL.U ?_ | refine AL.F ?_ | refine AL.T ?_ | refine AL.T (h := POp.k Tryz.func145 (hc := inr_v _ _ _)) ?_ | refine AL.T (h := POp.k Tryz.func179 (hc := isName_i s hm)) ?_ | refine AL.W ?_ | refine AL.W (h := fun h => by (try rw [h]); exact POp.k Tryz.func145 (hc := inr_v _ _ _)) ?_ | refine AL.W (h := fun h => by (try rw [h]); exact POp.k Tryz.func179 (hc := isName_i s hm)) ?_ | refine AL.nil ?_)
    | ((with_reducible show DL ..); first | refine DL.any ?_ | refine DL.any (h := POp.k Tryz.func284 (hc := nw_i s (by assumption))) ?_ | refine DL.nil ?_)
    | (refine iAW ?_; first | (refine AW.c0 ?_; constructor) | refine AW.dr (id := 5) 5 ?_ | refine AW.dr (id := 6) 5 ?_ | refine AW.cT ?_ | refine AW.cF ?_ | (refine AW.c2 ?_ ?_ <;> (intro h; try simp only [bT, bF] at h)))) <;> (try dsimp only))
  all_goals exact Fin.two rfl (RV.cell (QOp.quietA TT_ok (by rfl))) (RV.tmp (by rfl)) (clo_of (by rfl)) ⟨by first | (rw [labB, lbOk, if_pos hbx, hbx] <;> rfl) | (rw [labB, lbOk, if_neg (by rw [hbx]; decide), hbx] <;> rfl), rfl⟩

theorem lab_i1 (p : TPoint) (s : ByteArray) (hp : isp p.x p.y = true) (hs : isName s = true) : VCalls Tryz.prog 214 [.agg p.en, S s, I 1] (fun r M => r = .tup [.agg (labB p s 1).en, B (lbOk p s 1)] ∧ M = []) := by
  refine VB Tryz.func214 61 (fun E hE => ?_)
  dsimp only [TPoint.en, TBox.en]
  have hm := name_max hs
  have hb := name_len hs
  have h03 : inr 1 0 3 = true := rfl
  rcases Bool.eq_false_or_eq_true (isBoxB (lbx p s 1)) with hbx | hbx
  repeat' ((first
    | (refine iAL ?_; first | refine AL.any ?_ | refine AL.any (h := POp.k Tryz.func180 (hc := by first | exact isp_v_t _ _ (by assumption) | exact isp_v_f _ _ (by assumption) | exact isp_v _ _)) ?_ | refine AL.any (h := POp.k Tryz.func250 (hc := isBox_i (lbx p s 1))) ?_ | refine AL.U ?_ | refine AL.F ?_ | refine AL.T ?_ | refine AL.T (h := POp.k Tryz.func145 (hc := inr_v _ _ _)) ?_ | refine AL.T (h := POp.k Tryz.func179 (hc := isName_i s hm)) ?_ | refine AL.W ?_ | refine AL.W (h := fun h => by (try rw [h]); exact POp.k Tryz.func145 (hc := inr_v _ _ _)) ?_ | refine AL.W (h := fun h => by (try rw [h]); exact POp.k Tryz.func179 (hc := isName_i s hm)) ?_ | refine AL.nil ?_)
    | ((with_reducible show DL ..); first | refine DL.any ?_ | refine DL.any (h := POp.k Tryz.func284 (hc := nw_i s (by assumption))) ?_ | refine DL.nil ?_)
    | (refine iAW ?_; first | (refine AW.c0 ?_; constructor) | refine AW.dr (id := 5) 5 ?_ | refine AW.dr (id := 6) 5 ?_ | refine AW.cT ?_ | refine AW.cF ?_ | (refine AW.c2 ?_ ?_ <;> (intro h; try simp only [bT, bF] at h)))) <;> (try dsimp only))
  all_goals exact Fin.two rfl (RV.cell (QOp.quietA TT_ok (by rfl))) (RV.tmp (by rfl)) (clo_of (by rfl)) ⟨by first | (rw [labB, lbOk, if_pos hbx, hbx] <;> rfl) | (rw [labB, lbOk, if_neg (by rw [hbx]; decide), hbx] <;> rfl), rfl⟩

theorem lab_i2 (p : TPoint) (s : ByteArray) (hp : isp p.x p.y = true) (hs : isName s = true) : VCalls Tryz.prog 214 [.agg p.en, S s, I 2] (fun r M => r = .tup [.agg (labB p s 2).en, B (lbOk p s 2)] ∧ M = []) := by
  refine VB Tryz.func214 61 (fun E hE => ?_)
  dsimp only [TPoint.en, TBox.en]
  have hm := name_max hs
  have hb := name_len hs
  have h03 : inr 2 0 3 = true := rfl
  rcases Bool.eq_false_or_eq_true (isBoxB (lbx p s 2)) with hbx | hbx
  repeat' ((first
    | (refine iAL ?_; first | refine AL.any ?_ | refine AL.any (h := POp.k Tryz.func180 (hc := by first | exact isp_v_t _ _ (by assumption) | exact isp_v_f _ _ (by assumption) | exact isp_v _ _)) ?_ | refine AL.any (h := POp.k Tryz.func250 (hc := isBox_i (lbx p s 2))) ?_ | refine AL.U ?_ | refine AL.F ?_ | refine AL.T ?_ | refine AL.T (h := POp.k Tryz.func145 (hc := inr_v _ _ _)) ?_ | refine AL.T (h := POp.k Tryz.func179 (hc := isName_i s hm)) ?_ | refine AL.W ?_ | refine AL.W (h := fun h => by (try rw [h]); exact POp.k Tryz.func145 (hc := inr_v _ _ _)) ?_ | refine AL.W (h := fun h => by (try rw [h]); exact POp.k Tryz.func179 (hc := isName_i s hm)) ?_ | refine AL.nil ?_)
    | ((with_reducible show DL ..); first | refine DL.any ?_ | refine DL.any (h := POp.k Tryz.func284 (hc := nw_i s (by assumption))) ?_ | refine DL.nil ?_)
    | (refine iAW ?_; first | (refine AW.c0 ?_; constructor) | refine AW.dr (id := 5) 5 ?_ | refine AW.dr (id := 6) 5 ?_ | refine AW.cT ?_ | refine AW.cF ?_ | (refine AW.c2 ?_ ?_ <;> (intro h; try simp only [bT, bF] at h)))) <;> (try dsimp only))
  all_goals exact Fin.two rfl (RV.cell (QOp.quietA TT_ok (by rfl))) (RV.tmp (by rfl)) (clo_of (by rfl)) ⟨by first | (rw [labB, lbOk, if_pos hbx, hbx] <;> rfl) | (rw [labB, lbOk, if_neg (by rw [hbx]; decide), hbx] <;> rfl), rfl⟩

theorem lab_i3 (p : TPoint) (s : ByteArray) (hp : isp p.x p.y = true) (hs : isName s = true) : VCalls Tryz.prog 214 [.agg p.en, S s, I 3] (fun r M => r = .tup [.agg (labB p s 3).en, B (lbOk p s 3)] ∧ M = []) := by
  refine VB Tryz.func214 61 (fun E hE => ?_)
  dsimp only [TPoint.en, TBox.en]
  have hm := name_max hs
  have hb := name_len hs
  have h03 : inr 3 0 3 = true := rfl
  rcases Bool.eq_false_or_eq_true (isBoxB (lbx p s 3)) with hbx | hbx
  repeat' ((first
    | (refine iAL ?_; first | refine AL.any ?_ | refine AL.any (h := POp.k Tryz.func180 (hc := by first | exact isp_v_t _ _ (by assumption) | exact isp_v_f _ _ (by assumption) | exact isp_v _ _)) ?_ | refine AL.any (h := POp.k Tryz.func250 (hc := isBox_i (lbx p s 3))) ?_ | refine AL.U ?_ | refine AL.F ?_ | refine AL.T ?_ | refine AL.T (h := POp.k Tryz.func145 (hc := inr_v _ _ _)) ?_ | refine AL.T (h := POp.k Tryz.func179 (hc := isName_i s hm)) ?_ | refine AL.W ?_ | refine AL.W (h := fun h => by (try rw [h]); exact POp.k Tryz.func145 (hc := inr_v _ _ _)) ?_ | refine AL.W (h := fun h => by (try rw [h]); exact POp.k Tryz.func179 (hc := isName_i s hm)) ?_ | refine AL.nil ?_)
    | ((with_reducible show DL ..); first | refine DL.any ?_ | refine DL.any (h := POp.k Tryz.func284 (hc := nw_i s (by assumption))) ?_ | refine DL.nil ?_)
    | (refine iAW ?_; first | (refine AW.c0 ?_; constructor) | refine AW.dr (id := 5) 5 ?_ | refine AW.dr (id := 6) 5 ?_ | refine AW.cT ?_ | refine AW.cF ?_ | (refine AW.c2 ?_ ?_ <;> (intro h; try simp only [bT, bF] at h)))) <;> (try dsimp only))
  all_goals exact Fin.two rfl (RV.cell (QOp.quietA TT_ok (by rfl))) (RV.tmp (by rfl)) (clo_of (by rfl)) ⟨by first | (rw [labB, lbOk, if_pos hbx, hbx] <;> rfl) | (rw [labB, lbOk, if_neg (by rw [hbx]; decide), hbx] <;> rfl), rfl⟩

theorem lab_i (p : TPoint) (s : ByteArray) (k : Int) (hp : isp p.x p.y = true) (hs : isName s = true) (hk : inr k 0 3 = true) : VCalls Tryz.prog 214 [.agg p.en, S s, I k] (fun r M => r = .tup [.agg (labB p s k).en, B (lbOk p s k)] ∧ M = []) := by
  rcases in03 hk with rfl | rfl | rfl | rfl
  · exact lab_i0 p s hp hs
  · exact lab_i1 p s hp hs
  · exact lab_i2 p s hp hs
  · exact lab_i3 p s hp hs
theorem cor_s (p : TPoint) (s : ByteArray) (hp : isp p.x p.y = true) (hs : isName s = true) : VCalls Tryz.prog 273 [.agg p.en, S s] (fun r M => r = .ro 1 ((cors p s).map enI) ∧ M = []) := by
  refine VB Tryz.func273 25 (fun E hE => ?_)
  have hclp : Clo (.agg p.en) := Clo.agg p.clo_en
  have hm := name_max hs
  have hb := name_len hs
  repeat' ((first
    | (refine iAL ?_; first | refine AL.any ?_ | refine AL.any (h := POp.k Tryz.func206 (hc := lab_s p s (i : Int) hp hs hk3)) ?_ | refine AL.nil ?_)
    | (refine iAW ?_; first | (refine AW.freezeRet (t := 4) (id := 1) rfl rfl rfl rfl (clo_rows clo_enI) ?_; (try simp only [List.take_length]); try dsimp only [dput, List.set, cond_true, cond_false, Nat.zero_add, Nat.add_zero, Nat.reduceAdd, splice, List.take, List.drop, List.length, List.nil_append, List.cons_append, List.append, TPoint.en, TSegment.en, TBox.en, TFeature.en, TMeet.en, TPlace.en, TCover.en, TLabel.en, TPiece.en, TLevel.en, TChart.en, TReason.en, TEdit.en, TEntry.en, TEdition.en, TListing.en, TAtlas.en, TEvent.en, TWindow.en]) | (refine AW.c0 ?_; constructor) | refine AW.cT ?_ | refine AW.cF ?_ | (refine AW.c2 ?_ ?_ <;> (intro h; try simp only [bT, bF] at h)))
    | (refine AW.loopD hE (fun i : Nat => [.any, S s, .ref 0 0 2 0 0, .any, .any, .own 1 (crTo p s i).length, I (i : Int), .any, .any, .any, .any, .any, .any, .any, .any, .any, .any, .any, .any, .any, .any, .any, .any, .any, .any, .any, .any]) (fun i => [some ⟨141, 2, 0, true, [p.en]⟩, some ⟨3, 1, (crTo p s i).length, false, (crTo p s i).map enI⟩]) (fun i => 4 - i) (fun i => i ≤ 4) 0 (Nat.zero_le _) ?_ (by first | rfl | (simp [fil_zero]; done)) ?_
       (focus ((repeat' (first | exact Wk.nil | refine Wk.any ?_ | (with_reducible refine Wk.same ?_) | refine Wk.of ?_ ?_)) <;> first | rfl | (rfl)))
       intro i hi
       by_cases hlt : i < 4
       case' pos =>
         have hP := True.intro
         have hk3 := nat03 hlt
         have hcll : Clo (.agg (labB p s (i : Int)).en) := Clo.agg (TBox.clo_en _)
         have hclt : Clo (.tup [.agg (labB p s (i : Int)).en, B (lbOk p s (i : Int))]) := Clo.tup (clo_cons hcll (clo_cons (clo_c _) clo_nil))
         have hln := crTo_len p s i
         have ht : decide ((i : Int) < 4) = true := decide_eq_true (by omega)
         have hn : IntKind.i64.wrap ((i : Int) + 1) = ((i + 1 : Nat) : Int) := by rw [w64 (by omega) (by omega)]; rfl
         rcases Bool.eq_false_or_eq_true (lbOk p s (i : Int)) with hk | hk
         case' inl => obtain ⟨hm1, hm2⟩ := crTo_y hk
         case' inr => obtain ⟨hm1, hm2⟩ := crTo_n hk
       case' neg =>
         have hQ := True.intro
         have e : i = 4 := by omega
         have ht : decide ((i : Int) < 4) = false := decide_eq_false (by omega)
         subst e)
    | with_reducible refine ifP ?_
    | with_reducible refine ifN ?_) <;> (try dsimp only))
  all_goals first
    | (have _ := hP; (refine ⟨i + 1, _, hlt, by omega, ?_, by rw [hm1, hm2] <;> rfl, ?_, ?_⟩; (focus ((repeat' (first | exact Wk.nil | refine Wk.any ?_ | (with_reducible refine Wk.same ?_) | refine Wk.of ?_ ?_)) <;> (first | rfl | (rw [hn]; done) | (rw [hm2]; done)))); (focus (exact fitsA)); (focus (exact fitsM_cons (clo_one p.clo_en) (fitsM_cons (clo_rows clo_enI) (FitsM.nil _))))))
    | (have _ := hQ; exact Fin.one rfl (RV.tmp (by rfl)) (clo_list clo_enI) ⟨rfl, rfl⟩)

theorem cor_i (p : TPoint) (s : ByteArray) (hp : isp p.x p.y = true) (hs : isName s = true) : VCalls Tryz.prog 282 [.agg p.en, S s] (fun r M => r = .ro 1 ((cors p s).map enI) ∧ M = []) := by
  refine VB Tryz.func282 25 (fun E hE => ?_)
  have hclp : Clo (.agg p.en) := Clo.agg p.clo_en
  have hm := name_max hs
  have hb := name_len hs
  repeat' ((first
    | (refine iAL ?_; first | refine AL.any ?_ | refine AL.any (h := POp.k Tryz.func214 (hc := lab_i p s (i : Int) hp hs hk3)) ?_ | refine AL.nil ?_)
    | (refine iAW ?_; first | (refine AW.freezeRet (t := 4) (id := 1) rfl rfl rfl rfl (clo_rows clo_enI) ?_; (try simp only [List.take_length]); try dsimp only [dput, List.set, cond_true, cond_false, Nat.zero_add, Nat.add_zero, Nat.reduceAdd, splice, List.take, List.drop, List.length, List.nil_append, List.cons_append, List.append, TPoint.en, TSegment.en, TBox.en, TFeature.en, TMeet.en, TPlace.en, TCover.en, TLabel.en, TPiece.en, TLevel.en, TChart.en, TReason.en, TEdit.en, TEntry.en, TEdition.en, TListing.en, TAtlas.en, TEvent.en, TWindow.en]) | (refine AW.c0 ?_; constructor) | refine AW.cT ?_ | refine AW.cF ?_ | (refine AW.c2 ?_ ?_ <;> (intro h; try simp only [bT, bF] at h)))
    | (refine AW.loopD hE (fun i : Nat => [.any, S s, .ref 0 0 2 0 0, .any, .any, .own 1 (crTo p s i).length, .any, .any, .any, .any, I (i : Int), .any, .any, .any, .any, .any, .any, .any, .any, .any, .any, .any, .any, .any, .any, .any, .any]) (fun i => [some ⟨141, 2, 0, true, [p.en]⟩, some ⟨3, 1, (crTo p s i).length, false, (crTo p s i).map enI⟩]) (fun i => 4 - i) (fun i => i ≤ 4) 0 (Nat.zero_le _) ?_ (by first | rfl | (simp [fil_zero]; done)) ?_
       (focus ((repeat' (first | exact Wk.nil | refine Wk.any ?_ | (with_reducible refine Wk.same ?_) | refine Wk.of ?_ ?_)) <;> first | rfl | (rfl)))
       intro i hi
       by_cases hlt : i < 4
       case' pos =>
         have hP := True.intro
         have hk3 := nat03 hlt
         have hcll : Clo (.agg (labB p s (i : Int)).en) := Clo.agg (TBox.clo_en _)
         have hclt : Clo (.tup [.agg (labB p s (i : Int)).en, B (lbOk p s (i : Int))]) := Clo.tup (clo_cons hcll (clo_cons (clo_c _) clo_nil))
         have hln := crTo_len p s i
         have ht : decide ((i : Int) < 4) = true := decide_eq_true (by omega)
         have hn : IntKind.i64.wrap ((i : Int) + 1) = ((i + 1 : Nat) : Int) := by rw [w64 (by omega) (by omega)]; rfl
         rcases Bool.eq_false_or_eq_true (lbOk p s (i : Int)) with hk | hk
         case' inl => obtain ⟨hm1, hm2⟩ := crTo_y hk
         case' inr => obtain ⟨hm1, hm2⟩ := crTo_n hk
       case' neg =>
         have hQ := True.intro
         have e : i = 4 := by omega
         have ht : decide ((i : Int) < 4) = false := decide_eq_false (by omega)
         subst e)
    | with_reducible refine ifP ?_
    | with_reducible refine ifN ?_) <;> (try dsimp only))
  all_goals first
    | (have _ := hP; (refine ⟨i + 1, _, hlt, by omega, ?_, by rw [hm1, hm2] <;> rfl, ?_, ?_⟩; (focus ((repeat' (first | exact Wk.nil | refine Wk.any ?_ | (with_reducible refine Wk.same ?_) | refine Wk.of ?_ ?_)) <;> (first | rfl | (rw [hn]; done) | (rw [hm2]; done)))); (focus (exact fitsA)); (focus (exact fitsM_cons (clo_one p.clo_en) (fitsM_cons (clo_rows clo_enI) (FitsM.nil _))))))
    | (have _ := hQ; exact Fin.one rfl (RV.tmp (by rfl)) (clo_list clo_enI) ⟨rfl, rfl⟩)

theorem free_i (b : TBox) (tk : List TBox) (htk : tk.length ≤ 1048576) : VCalls Tryz.prog 283 [.agg b.en, .ro 4 (tk.map TBox.en)] (fun r M => r = B (freeB b tk) ∧ M = []) := by
  refine VB Tryz.func283 15 (fun E hE => ?_)
  have hclo : Clo (.ro 4 (tk.map TBox.en)) := clo_list TBox.clo_en
  have hclb : Clo (.agg b.en) := Clo.agg b.clo_en
  repeat' ((first
    | (refine iAL ?_; first | refine AL.any ?_ | refine AL.any (h := POp.k Tryz.func219 (hc := ov_i b t)) ?_ | refine AL.nil ?_)
    | (refine iAW ?_; first | (refine AW.c0 ?_; constructor) | refine AW.cT ?_ | refine AW.cF ?_ | (refine AW.c2 ?_ ?_ <;> (intro h; try simp only [bT, bF] at h)))
    | (refine AW.loopD hE (fun i : Nat => [.any, .any, .ref 0 0 4 0 0, .any, .any, .any, .any, .ro 4 (tk.map TBox.en), I ((tk.map TBox.en).length : Int), I (i : Int), .any, .any, .any, .any, .any, .any, .any]) (fun i => [some ⟨143, 4, 0, true, [b.en]⟩]) (fun i => tk.length - i) (fun i => i ≤ tk.length ∧ (tk.take i).all (noOv b) = true) 0 ⟨Nat.zero_le _, rfl⟩ ?_ (by first | rfl | (simp [fil_zero]; done)) ?_
       (focus ((repeat' (first | exact Wk.nil | refine Wk.any ?_ | (with_reducible refine Wk.same ?_) | refine Wk.of ?_ ?_)) <;> first | rfl | (rfl)))
       intro i hi
       by_cases hlt : i < tk.length
       case' pos =>
         have hP := True.intro
         obtain ⟨t, hx⟩ : ∃ x, tk[i]? = some x := ⟨_, List.getElem?_eq_getElem hlt⟩
         have hg := map_get (f := TBox.en) hx
         have ht := lt_true (f := TBox.en) hlt
         have hn := next_ix hlt (by omega)
         have hclt : Clo (.agg t.en) := Clo.agg t.clo_en
         rcases Bool.eq_false_or_eq_true (ovB b t) with hov | hov
         case' inl => have hres := free_no hx (show noOv b t = false by rw [noOv, hov]; rfl)
         case' inr => have hjn := all_take_y' hx hi.2 (show noOv b t = true by rw [noOv, hov]; rfl)
       case' neg =>
         have hQ := True.intro
         have ht := lt_false (f := TBox.en) hlt
         have e : i = tk.length := by omega
         subst e
         try rw [List.take_length])
    | with_reducible refine ifP ?_
    | with_reducible refine ifN ?_) <;> (try dsimp only))
  all_goals first
    | (have _ := hP; (refine ⟨i + 1, _, ⟨hlt, hjn⟩, by omega, ?_, rfl, ?_, ?_⟩; (focus ((repeat' (first | exact Wk.nil | refine Wk.any ?_ | (with_reducible refine Wk.same ?_) | refine Wk.of ?_ ?_)) <;> (first | rfl | (rw [hn]; done)))); (focus (exact fitsA)); (focus (exact fitsM_cons (clo_one b.clo_en) (FitsM.nil _)))))
    | (have _ := hP; exact Fin.one rfl (RV.tmp (by rfl)) (clo_c _) ⟨by rw [hres], rfl⟩)
    | (have _ := hQ; exact Fin.one rfl (RV.tmp (by rfl)) (clo_c _) ⟨by (have h2 := hi.2; rw [List.take_length] at h2; rw [freeB, h2]), rfl⟩)

theorem fc_i (p : TPoint) (s : ByteArray) (hp : isp p.x p.y = true) (hs : isName s = true) (tk : List TBox) (htk : tk.length ≤ 1048576) : VCalls Tryz.prog 213 [.agg p.en, S s, .ro 4 (tk.map TBox.en)] (fun r M => r = I (frC p s tk) ∧ M = []) := by
  refine VB Tryz.func213 28 (fun E hE => ?_)
  have hclp : Clo (.agg p.en) := Clo.agg p.clo_en
  have hm := name_max hs
  have hb := name_len hs
  have hclo : Clo (.ro 4 (tk.map TBox.en)) := clo_list TBox.clo_en
  have hclK : Clo (.ro 1 ((cors p s).map enI)) := clo_list clo_enI
  have hcl4 := cors_len p s
  repeat' ((first
    | (refine iAL ?_; first | refine AL.any ?_ | refine AL.any (h := POp.k Tryz.func214 (hc := lab_i p s k hp hs hk3)) ?_ | refine AL.any (h := POp.k Tryz.func282 (hc := cor_i _ _ (by assumption) (by assumption))) ?_ | refine AL.any (h := POp.k Tryz.func283 (hc := free_i (labB p s k) tk htk)) ?_ | refine AL.nil ?_)
    | (refine iAW ?_; first | (refine AW.c0 ?_; constructor) | refine AW.cT ?_ | refine AW.cF ?_ | (refine AW.c2 ?_ ?_ <;> (intro h; try simp only [bT, bF] at h)))
    | (refine AW.loopD hE (fun i : Nat => [.any, S s, .ro 4 (tk.map TBox.en), .ref 0 0 2 0 0, .any, .any, .any, .any, .any, .any, .any, .any, .any, .ro 1 ((cors p s).map enI), I (((cors p s).map enI).length : Int), I (i : Int), .any, .any, .any, .any, .any, .any, .any, .any, .any, .any, .any, .any, .any, .any, .any]) (fun i => [some ⟨141, 2, 0, true, [p.en]⟩]) (fun i => (cors p s).length - i) (fun i => i ≤ (cors p s).length ∧ ((cors p s).take i).all (fun y => !frK p s tk y) = true) 0 ⟨Nat.zero_le _, rfl⟩ ?_ (by first | rfl | (simp [fil_zero]; done)) ?_
       (focus ((repeat' (first | exact Wk.nil | refine Wk.any ?_ | (with_reducible refine Wk.same ?_) | refine Wk.of ?_ ?_)) <;> first | rfl | (rfl)))
       intro i hi
       by_cases hlt : i < (cors p s).length
       case' pos =>
         have hP := True.intro
         obtain ⟨k, hx⟩ : ∃ x, (cors p s)[i]? = some x := ⟨_, List.getElem?_eq_getElem hlt⟩
         have hg := map_get (f := enI) hx
         have ht := lt_true (f := enI) hlt
         have hn := next_ix hlt (by omega)
         have hk3 := (cors_mem (List.mem_of_getElem? hx)).1
         have hcll : Clo (.agg (labB p s k).en) := Clo.agg (TBox.clo_en _)
         have hclt : Clo (.tup [.agg (labB p s k).en, B (lbOk p s k)]) := Clo.tup (clo_cons hcll (clo_cons (clo_c _) clo_nil))
         rcases Bool.eq_false_or_eq_true (freeB (labB p s k) tk) with hfr | hfr
         case' inl => have hres := frC_at hx hfr hi.2
         case' inr => have hjn := all_take_y' (p := fun y => !frK p s tk y) hx hi.2 (by unfold frK; rw [hfr]; rfl)
       case' neg =>
         have hQ := True.intro
         have ht := lt_false (f := enI) hlt
         have e : i = (cors p s).length := by omega
         subst e
         try rw [List.take_length])
    | with_reducible refine ifP ?_
    | with_reducible refine ifN ?_) <;> (try dsimp only))
  all_goals first
    | (have _ := hP; (refine ⟨i + 1, _, ⟨hlt, hjn⟩, by omega, ?_, rfl, ?_, ?_⟩; (focus ((repeat' (first | exact Wk.nil | refine Wk.any ?_ | (with_reducible refine Wk.same ?_) | refine Wk.of ?_ ?_)) <;> (first | rfl | (rw [hn]; done)))); (focus (exact fitsA)); (focus (exact fitsM_cons (clo_one p.clo_en) (FitsM.nil _)))))
    | (have _ := hP; exact Fin.one rfl (RV.tmp (by rfl)) (clo_c _) ⟨by rw [hres], rfl⟩)
    | (have _ := hQ; exact Fin.one rfl (RV.tmp (by rfl)) (clo_c _) ⟨by rw [frC_no hi.2], rfl⟩)

theorem fc_s (p : TPoint) (s : ByteArray) (hp : isp p.x p.y = true) (hs : isName s = true) (tk : List TBox) (htk : tk.length ≤ 1048576) : VCalls Tryz.prog 205 [.agg p.en, S s, .ro 4 (tk.map TBox.en)] (fun r M => r = I (frC p s tk) ∧ M = []) := by
  refine VB Tryz.func205 50 (fun E hE => ?_)
  have a1 := True.intro
  have hclp : Clo (.agg p.en) := Clo.agg p.clo_en
  have hm := name_max hs
  have hb := name_len hs
  have hclo : Clo (.ro 4 (tk.map TBox.en)) := clo_list TBox.clo_en
  have hclK : Clo (.ro 1 ((cors p s).map enI)) := clo_list clo_enI
  have hcl4 := cors_len p s
  repeat' ((first
    | (refine iAL ?_; first | refine AL.any ?_ | refine AL.any (h := POp.k Tryz.func273 (hc := cor_s _ _ (by assumption) (by assumption))) ?_ | refine AL.U ?_ | refine AL.F ?_ | refine AL.T ?_ | refine AL.T (h := POp.k Tryz.func218 (hc := ov_s (labB p s k) t)) ?_ | refine AL.W ?_ | refine AL.W (h := fun h => by (try rw [h]); exact POp.k Tryz.func218 (hc := ov_s (labB p s k) t)) ?_ | refine AL.nil ?_)
    | ((with_reducible show DL ..); first | refine DL.any ?_ | refine DL.any (h := POp.k Tryz.func206 (hc := lab_s p s k hp hs hk3)) ?_ | refine DL.U ?_ | refine DL.F ?_ | refine DL.T ?_ | refine DL.W ?_ | refine DL.nil ?_)
    | ((with_reducible show DLR ..); first | refine DLR.any ?_ | refine DLR.alloc rfl rfl (by first | exact ze2 | exact ze3 | exact ze4 | exact ze6 | exact ze7 | exact ze8 | exact ze9 | exact ze11 | exact ze12 | exact ze15 | exact ze16 | exact ze17 | exact ze18 | exact ze21 | exact ze22 | exact ze23 | exact ze24 | exact ze25 | exact ze26 | exact ze27 | exact ze31 | exact ze32 | exact ze33 | exact ze34 | exact ze36 | exact ze41 | exact ze42 | exact ze45 | exact ze47 | exact ze56 | exact ze81 | exact ze129 | exact ze135 | exact ze141 | exact ze143 | exact ze220) rfl rfl ?_ | refine DLR.box rfl rfl (by rfl) (by rfl) rfl rfl ?_ | refine DLR.store rfl rfl (by rfl) rfl rfl rfl rfl rfl (by rfl) (by rfl) (TT_ok.ld _ _ (by rfl)) (by rfl) (by rfl) rfl ?_ | refine DLR.any (h := fun Y => POp.k Tryz.func206 (hc := lab_s p s k hp hs hk3)) ?_ | refine DLR.row rfl (fun Y => RowRun.empty (by rfl) (by rfl) (by first | exact rwk22 | exact rwk23 | exact rwk24 | exact rwk31 | exact rwk32 | exact rwk33 | exact rwk45 | exact rwk56 | exact rwk220)) rfl rfl ?_ | refine DLR.row rfl (fun Y => RowRun.literal (by rfl) (by first | exact rwk22 | exact rwk23 | exact rwk24 | exact rwk31 | exact rwk32 | exact rwk33 | exact rwk45 | exact rwk56 | exact rwk220) (by rfl) (by rfl) (by rfl) (by rfl) (by rfl) (by rfl)) rfl rfl ?_ | refine DLR.append rfl (by rfl) (by first | exact rwk22 | exact rwk23 | exact rwk24 | exact rwk31 | exact rwk32 | exact rwk33 | exact rwk45 | exact rwk56 | exact rwk220) (by rfl) rfl rfl rfl rfl rfl rfl (by rfl) (by first | (simp <;> omega) | omega) (by first | (simp [maxLen] <;> omega) | (simp_all [maxLen] <;> omega)) ?_ | refine DLR.W ?_ | refine DLR.nil ?_)
    | (refine iAW ?_; first | (refine AW.c0 ?_; constructor) | refine AW.drawnR (id := 5) 12 1 [none, none, none, none, none, none, none, none, none, none, some 0, some 0] [some Rsv] rfl (by kernel_rfl) (by kernel_rfl) (by kernel_rfl) (by rfl) ?_ | refine AW.dr (id := 10) 7 ?_ | refine AW.cT ?_ | refine AW.cF ?_ | (refine AW.c2 ?_ ?_ <;> (intro h; try simp only [bT, bF] at h)))
    | (have _ := a1
       clear a1
       refine AW.loopD hE (fun s_ : Nat => [.any, S s, .ro 4 (tk.map TBox.en), .ref 0 0 2 0 0, .any, .any, .any, .ro 1 ((cors p s).map enI), I (s_ : Int), .any, .any, .any, .any, .any, .any, .any, .any, .any, .any, .any, .any, .any, .any, .any, .any, .any, .any, .any, .any, .any, .any, .any, .any, .any, .any, .any, .any, .any, .any, .any, .any, .any, .any, .any, .any, .any, .any, .any, .any, .any, .any, .any, .any]) (fun s_ => [some ⟨141, 2, 0, true, [p.en]⟩]) (fun s_ => (cors p s).length - s_) (fun s_ => s_ ≤ (cors p s).length ∧ ((cors p s).take s_).all (fun y => !frK p s tk y) = true) 0 ⟨Nat.zero_le _, rfl⟩ ?_ (by first | rfl | (rfl)) ?_
       (focus (exact wkI))
       rintro i hJ
       try dsimp only at hJ
       try dsimp only
       by_cases hlt : i < (cors p s).length
       case' pos =>
         have a2 := True.intro
         obtain ⟨k, hx⟩ := getD_some (l := (cors p s)) (i := i) hlt
         have hg := map_get (f := enI) hx
         have ht := lt_true (f := enI) hlt
         have hn := next_ix hlt (by omega)
         have hx0 := hJ.2
         have hk3 := (cors_mem (List.mem_of_getElem? hx)).1
         have hcll : Clo (.agg (labB p s k).en) := Clo.agg (TBox.clo_en _)
         have hclt : Clo (.tup [.agg (labB p s k).en, B (lbOk p s k)]) := Clo.tup (clo_cons hcll (clo_cons (clo_c _) clo_nil))
       case' neg =>
         have q1 := True.intro
         have ht := lt_false (f := enI) hlt
         have ei : i = (cors p s).length := by omega
         have hres : frC p s tk = -1 := frC_no (by rw [← ei]; exact hJ.2))
    | (have _ := a2
       clear a2
       refine AW.loopD hE (fun s_ : Nat => [.any, S s, .ro 4 (tk.map TBox.en), .ref 0 0 2 0 0, .any, .any, .any, .ro 1 ((cors p s).map enI), I (i : Int), .ref 1 1 4 0 0, .any, B ((tk.take s_).all (noOv (labB p s k))), I (s_ : Int), .any, .any, .any, .any, .any, .any, .any, .any, .any, .any, .any, .any, .any, .any, .any, .any, .any, .any, .any, .any, .any, .any, .any, .any, .any, .any, .any, .any, .any, .any, .any, .any, .any, .any, .any, .any, .any, .any, .any, .any]) (fun s_ => [some ⟨141, 2, 0, true, [p.en]⟩, some ⟨143, 4, 1, true, [(labB p s k).en]⟩]) (fun s_ => tk.length - s_) (fun s_ => s_ ≤ tk.length) 0 (Nat.zero_le _) ?_ (by first | rfl | (rfl)) ?_
       (focus ((repeat' (first | exact Wk.nil | refine Wk.any ?_ | (with_reducible refine Wk.same ?_) | refine Wk.of ?_ ?_)) <;> first | rfl | simp))
       rintro j hJ2
       try dsimp only at hJ2
       try dsimp only
       by_cases hlt : j < tk.length
       case' pos =>
         have p2 := True.intro
         obtain ⟨t, hy⟩ := getD_some (l := tk) (i := j) hlt
         have hgy := map_get (f := TBox.en) hy
         have hty := lt_true (f := TBox.en) hlt
         have hny := next_ix hlt (by omega)
         have hclt2 : Clo (.agg t.en) := Clo.agg t.clo_en
         rcases Bool.eq_false_or_eq_true ((tk.take j).all (noOv (labB p s k))) with hb2 | hb2
         case' inl => have hat : (tk.take (j + 1)).all (noOv (labB p s k)) = !ovB (labB p s k) t := (all_take_y hy hb2).trans rfl
         case' inr => have hat : (tk.take (j + 1)).all (noOv (labB p s k)) = false := all_take_n hy hb2
       case' neg =>
         have q2 := True.intro
         have hty := lt_false (f := TBox.en) hlt
         obtain rfl : j = tk.length := by omega
         rw [List.take_length]
         rcases Bool.eq_false_or_eq_true (tk.all (noOv (labB p s k))) with hfr | hfr
         case' inl => have hres := frC_at hx hfr hx0
         case' inr => have hjn := all_take_y' (p := fun y => !frK p s tk y) hx hx0 (by unfold frK freeB; rw [hfr]; rfl))
    | with_reducible refine ifP ?_
    | with_reducible refine ifN ?_) <;> (try dsimp only))
  all_goals first
    | (have _ := p2; refine ⟨j + 1, _, hlt, by omega, ?_, rfl, ?_, ?_⟩; (focus ((repeat' (first | exact Wk.nil | refine Wk.any ?_ | (with_reducible refine Wk.same ?_) | refine Wk.of ?_ ?_)) <;> first | rfl | (rw [hat]; done) | (rw [hny]; done))); (focus (exact fitsA)); (focus (exact fitsM_cons (clo_one p.clo_en) (fitsM_cons (clo_one (TBox.clo_en _)) (FitsM.nil _)))))
    | (have _ := q2; refine ⟨i + 1, _, ⟨(by assumption), hjn⟩, by omega, ?_, rfl, ?_, ?_⟩; (focus ((repeat' (first | exact Wk.nil | refine Wk.any ?_ | (with_reducible refine Wk.same ?_) | refine Wk.of ?_ ?_)) <;> first | rfl | (rw [hn]; done))); (focus (exact fitsA)); (focus (exact fitsM_cons (clo_one p.clo_en) (FitsM.nil _))))
    | (have _ := q2; exact Fin.one rfl (RV.tmp (by rfl)) (clo_c _) ⟨by rw [hres], rfl⟩)
    | (have _ := q1; exact Fin.one rfl (RV.tmp (by rfl)) (clo_c _) ⟨by rw [hres], rfl⟩)

theorem cnt_s (l : List TFeature) (hl : l.length ≤ 1048576) (hp : ∀ x ∈ l, x.points.length ≤ 1048576) : VCalls Tryz.prog 72 [.ro 5 (l.map TFeature.en)] (fun r M => r = I (cntP l : Int) ∧ M = []) := by
  refine VB Tryz.func72 19 (fun E hE => ?_)
  have hclo : Clo (.ro 5 (l.map TFeature.en)) := clo_list TFeature.clo_en
  repeat' ((first
    | (refine iAL ?_; first | refine AL.any ?_ | refine AL.nil ?_)
    | (refine iAW ?_; first | (refine AW.c0 ?_; constructor) | refine AW.cT ?_ | refine AW.cF ?_ | (refine AW.c2 ?_ ?_ <;> (intro h; try simp only [bT, bF] at h)))
    | (refine AW.loopD hE (fun i : Nat => [.ro 5 (l.map TFeature.en), .any, .any, I (cntTo l i : Int), I (i : Int), .any, .any, .any, .any, .any, .any, .any, .any, .any, .any, .any, .any, .any, .any, .any]) (fun i => []) (fun i => l.length - i) (fun i => i ≤ l.length) 0 (by simp) ?_ (by first | rfl | (simp [fil_zero]; done)) ?_
       (focus ((repeat' (first | exact Wk.nil | refine Wk.any ?_ | (with_reducible refine Wk.same ?_) | refine Wk.of ?_ ?_)) <;> first | rfl | (rfl)))
       intro i hi
       by_cases hlt : i < l.length
       case' pos =>
         have hP := True.intro
         obtain ⟨x, hx⟩ : ∃ x, l[i]? = some x := ⟨_, List.getElem?_eq_getElem hlt⟩
         have hg := map_get (f := TFeature.en) hx
         have ht := lt_true (f := TFeature.en) hlt
         have hn := next_ix hlt (by omega)
         have hcle : Clo (.agg x.en) := Clo.agg x.clo_en
         have hclP : Clo (.ro 2 (x.points.map TPoint.en)) := clo_list TPoint.clo_en
         have hpx := hp x (List.mem_of_getElem? hx)
         have hss := cntTo_succ hx
         have hle := cntTo_le hp i hl
         have hsm : IntKind.i64.wrap (((cntTo l i : Nat) : Int) + ((x.points.map TPoint.en).length : Int)) = ((cntTo l (i + 1) : Nat) : Int) := by rw [List.length_map, w64 (by omega) (by omega), hss]; omega
       case' neg =>
         have hQ := True.intro
         have ht := lt_false (f := TFeature.en) hlt
         have e : i = l.length := by omega
         subst e
         try rw [List.take_length])
    | with_reducible refine ifP ?_
    | with_reducible refine ifN ?_) <;> (try dsimp only))
  all_goals first
    | (have _ := hP; (refine ⟨i + 1, _, hlt, by omega, ?_, rfl, ?_, ?_⟩; (focus ((repeat' (first | exact Wk.nil | refine Wk.any ?_ | (with_reducible refine Wk.same ?_) | refine Wk.of ?_ ?_)) <;> (first | rfl | (rw [hn]; done) | (rw [hsm]; done)))); (focus (exact fitsA)); (focus (exact FitsM.nil _))))
    | (have _ := hQ; exact Fin.one rfl (RV.tmp (by rfl)) (clo_c _) ⟨by rw [cntTo_all], rfl⟩)

theorem cnt_i (l : List TFeature) (hl : l.length ≤ 1048576) (hp : ∀ x ∈ l, x.points.length ≤ 1048576) : VCalls Tryz.prog 75 [.ro 5 (l.map TFeature.en)] (fun r M => r = I (cntP l : Int) ∧ M = []) := by
  refine VB Tryz.func75 18 (fun E hE => ?_)
  have hclo : Clo (.ro 5 (l.map TFeature.en)) := clo_list TFeature.clo_en
  repeat' ((first
    | (refine iAL ?_; first | refine AL.any ?_ | refine AL.nil ?_)
    | (refine iAW ?_; first | (refine AW.c0 ?_; constructor) | refine AW.cT ?_ | refine AW.cF ?_ | (refine AW.c2 ?_ ?_ <;> (intro h; try simp only [bT, bF] at h)))
    | (refine AW.loopD hE (fun i : Nat => [.any, .any, .any, I (cntTo l i : Int), .any, .any, .ro 5 (l.map TFeature.en), I ((l.map TFeature.en).length : Int), I (i : Int), .any, .any, .any, .any, .any, .any, .any, .any, .any, .any]) (fun i => []) (fun i => l.length - i) (fun i => i ≤ l.length) 0 (by simp) ?_ (by first | rfl | (simp [fil_zero]; done)) ?_
       (focus ((repeat' (first | exact Wk.nil | refine Wk.any ?_ | (with_reducible refine Wk.same ?_) | refine Wk.of ?_ ?_)) <;> first | rfl | (rfl)))
       intro i hi
       by_cases hlt : i < l.length
       case' pos =>
         have hP := True.intro
         obtain ⟨x, hx⟩ : ∃ x, l[i]? = some x := ⟨_, List.getElem?_eq_getElem hlt⟩
         have hg := map_get (f := TFeature.en) hx
         have ht := lt_true (f := TFeature.en) hlt
         have hn := next_ix hlt (by omega)
         have hcle : Clo (.agg x.en) := Clo.agg x.clo_en
         have hclP : Clo (.ro 2 (x.points.map TPoint.en)) := clo_list TPoint.clo_en
         have hpx := hp x (List.mem_of_getElem? hx)
         have hss := cntTo_succ hx
         have hle := cntTo_le hp i hl
         have hsm : IntKind.i64.wrap (((cntTo l i : Nat) : Int) + ((x.points.map TPoint.en).length : Int)) = ((cntTo l (i + 1) : Nat) : Int) := by rw [List.length_map, w64 (by omega) (by omega), hss]; omega
       case' neg =>
         have hQ := True.intro
         have ht := lt_false (f := TFeature.en) hlt
         have e : i = l.length := by omega
         subst e
         try rw [List.take_length])
    | with_reducible refine ifP ?_
    | with_reducible refine ifN ?_) <;> (try dsimp only))
  all_goals first
    | (have _ := hP; (refine ⟨i + 1, _, hlt, by omega, ?_, rfl, ?_, ?_⟩; (focus ((repeat' (first | exact Wk.nil | refine Wk.any ?_ | (with_reducible refine Wk.same ?_) | refine Wk.of ?_ ?_)) <;> (first | rfl | (rw [hn]; done) | (rw [hsm]; done)))); (focus (exact fitsA)); (focus (exact FitsM.nil _))))
    | (have _ := hQ; exact Fin.one rfl (RV.tmp (by rfl)) (clo_c _) ⟨by rw [cntTo_all], rfl⟩)

theorem mid_s (l : List TPoint) (hl : l.length ≤ 1048576) (hr : isRing l = true) : VCalls Tryz.prog 272 [.ro 2 (l.map TPoint.en)] (fun r M => r = .tup [.agg (rmid l).en, B true] ∧ M = []) := by
  refine VB Tryz.func272 45 (fun E hE => ?_)
  have hclo : Clo (.ro 2 (l.map TPoint.en)) := clo_list TPoint.clo_en
  have hrl := isRing_len hr
  have hnz : ((l.map TPoint.en).length : Int) ≠ 0 := by rw [List.length_map]; omega
  repeat' ((first
    | (refine iAL ?_; first | refine AL.any ?_ | refine AL.any (h := POp.k Tryz.func172 (hc := isRing_s l hl)) ?_ | refine AL.nil ?_)
    | ((with_reducible show DL ..); first | refine DL.any ?_ | refine DL.nil ?_)
    | (refine iAW ?_; first | (refine AW.c0 ?_; constructor) | refine AW.dr (id := 7) 7 ?_ | refine AW.dr (id := 8) 7 ?_ | refine AW.dr (id := 9) 10 ?_ | refine AW.cT ?_ | refine AW.cF ?_ | (refine AW.c2 ?_ ?_ <;> (intro h; try simp only [bT, bF] at h)))
    | (refine AW.loopD hE (fun i : Nat => [.ro 2 (l.map TPoint.en), .any, .ref 0 0 2 0 0, .any, .ref 1 0 2 0 0, I (i : Int), .any, .any, .any, .any, .any, .any, .any, .any, .any, .any, .any, .any, .any, .any, .any, .any, .any, .any, .any, .any, .any, .any, .any, .any, .any, .any, .any, .any, .any, .any, .any, .any, .any, .any, .any, .any, .any, .any, .any, .any]) (fun i => [some ⟨141, 2, 0, true, [[I 0, I 0]]⟩, some ⟨141, 2, 0, true, [[I (smX l i), I (smY l i)]]⟩]) (fun i => l.length - i) (fun i => i ≤ l.length) 0 (by simp) ?_ (by first | rfl | (simp [fil_zero]; done)) ?_
       (focus ((repeat' (first | exact Wk.nil | refine Wk.any ?_ | (with_reducible refine Wk.same ?_) | refine Wk.of ?_ ?_)) <;> first | rfl | (rfl)))
       intro i hi
       by_cases hlt : i < l.length
       case' pos =>
         have hP := True.intro
         obtain ⟨x, hx⟩ : ∃ x, l[i]? = some x := ⟨_, List.getElem?_eq_getElem hlt⟩
         have hg := map_get (f := TPoint.en) hx
         have ht := lt_true (f := TPoint.en) hlt
         have hn := next_ix hlt (by omega)
         have hcle : Clo (.agg x.en) := Clo.agg x.clo_en
         have hX := smX_succ hx
         have hY := smY_succ hx
       case' neg =>
         have hQ := True.intro
         have ht := lt_false (f := TPoint.en) hlt
         have e : i = l.length := by omega
         subst e
         try rw [List.take_length])
    | with_reducible refine ifP ?_
    | with_reducible refine ifN ?_) <;> (try dsimp only))
  all_goals first
    | (have _ := hP; (refine ⟨i + 1, _, hlt, by omega, ?_, by rw [hX, hY] <;> rfl, ?_, ?_⟩; (focus ((repeat' (first | exact Wk.nil | refine Wk.any ?_ | (with_reducible refine Wk.same ?_) | refine Wk.of ?_ ?_)) <;> (first | rfl | (rw [hn]; done)))); (focus (exact fitsA)); (focus (exact fitsM_cons (clo_rows_b rfl) (fitsM_cons (clo_rows_b rfl) (FitsM.nil _))))))
    | (have _ := hQ; exact Fin.two rfl (RV.cell (QOp.quietA TT_ok (by rfl))) (RV.tmp (by rfl)) (clo_of (by rfl)) ⟨by (simp only [rmid, TPoint.en, List.length_map]) <;> rfl, rfl⟩)

theorem mid_i (l : List TPoint) (hl : l.length ≤ 1048576) (hr : isRing l = true) : VCalls Tryz.prog 281 [.ro 2 (l.map TPoint.en)] (fun r M => r = .tup [.agg (rmid l).en, B true] ∧ M = []) := by
  refine VB Tryz.func281 41 (fun E hE => ?_)
  have hclo : Clo (.ro 2 (l.map TPoint.en)) := clo_list TPoint.clo_en
  have hrl := isRing_len hr
  have hnz : ((l.map TPoint.en).length : Int) ≠ 0 := by rw [List.length_map]; omega
  repeat' ((first
    | (refine iAL ?_; first | refine AL.any ?_ | refine AL.any (h := POp.k Tryz.func182 (hc := isRing_i l hl)) ?_ | refine AL.nil ?_)
    | ((with_reducible show DL ..); first | refine DL.any ?_ | refine DL.nil ?_)
    | (refine iAW ?_; first | (refine AW.c0 ?_; constructor) | refine AW.dr (id := 10) 10 ?_ | refine AW.cT ?_ | refine AW.cF ?_ | (refine AW.c2 ?_ ?_ <;> (intro h; try simp only [bT, bF] at h)))
    | (refine AW.loopD hE (fun i : Nat => [.ro 2 (l.map TPoint.en), .any, .ref 0 0 2 0 0, .any, .ref 1 0 2 0 0, .any, .any, .any, .any, .any, .any, .any, .ro 2 (l.map TPoint.en), I ((l.map TPoint.en).length : Int), I (i : Int), .any, .any, .any, .any, .any, .any, .any, .any, .any, .any, .any, .any, .any, .any, .any, .any, .any, .any, .any, .any, .any, .any, .any, .any, .any, .any, .any]) (fun i => [some ⟨141, 2, 0, true, [[I 0, I 0]]⟩, some ⟨141, 2, 0, true, [[I (smX l i), I (smY l i)]]⟩]) (fun i => l.length - i) (fun i => i ≤ l.length) 0 (by simp) ?_ (by first | rfl | (simp [fil_zero]; done)) ?_
       (focus ((repeat' (first | exact Wk.nil | refine Wk.any ?_ | (with_reducible refine Wk.same ?_) | refine Wk.of ?_ ?_)) <;> first | rfl | (rfl)))
       intro i hi
       by_cases hlt : i < l.length
       case' pos =>
         have hP := True.intro
         obtain ⟨x, hx⟩ : ∃ x, l[i]? = some x := ⟨_, List.getElem?_eq_getElem hlt⟩
         have hg := map_get (f := TPoint.en) hx
         have ht := lt_true (f := TPoint.en) hlt
         have hn := next_ix hlt (by omega)
         have hcle : Clo (.agg x.en) := Clo.agg x.clo_en
         have hX := smX_succ hx
         have hY := smY_succ hx
       case' neg =>
         have hQ := True.intro
         have ht := lt_false (f := TPoint.en) hlt
         have e : i = l.length := by omega
         subst e
         try rw [List.take_length])
    | with_reducible refine ifP ?_
    | with_reducible refine ifN ?_) <;> (try dsimp only))
  all_goals first
    | (have _ := hP; (refine ⟨i + 1, _, hlt, by omega, ?_, by rw [hX, hY] <;> rfl, ?_, ?_⟩; (focus ((repeat' (first | exact Wk.nil | refine Wk.any ?_ | (with_reducible refine Wk.same ?_) | refine Wk.of ?_ ?_)) <;> (first | rfl | (rw [hn]; done)))); (focus (exact fitsA)); (focus (exact fitsM_cons (clo_rows_b rfl) (fitsM_cons (clo_rows_b rfl) (FitsM.nil _))))))
    | (have _ := hQ; exact Fin.two rfl (RV.cell (QOp.quietA TT_ok (by rfl))) (RV.tmp (by rfl)) (clo_of (by rfl)) ⟨by (simp only [rmid, TPoint.en, List.length_map]) <;> rfl, rfl⟩)

theorem anc_s (l : List TFeature) (hS : isSource l = true) (hg0 : ∀ x ∈ l, x.gd) : VCalls Tryz.prog 204 [.ro 5 (l.map TFeature.en)] (fun r M => r = .ro 4 ((ancs l).map TPlace.en) ∧ M = []) := by
  refine VB Tryz.func204 51 (fun E hE => ?_)
  have hclo : Clo (.ro 5 (l.map TFeature.en)) := clo_list TFeature.clo_en
  have hsl := src_len hS
  repeat' ((first
    | (refine iAL ?_; first | refine AL.any ?_ | refine AL.any (h := POp.k Tryz.func272 (hc := mid_s x.points hlx hr)) ?_ | refine AL.U ?_ | refine AL.F ?_ | refine AL.T ?_ | refine AL.T (h := POp.k Tryz.func78 (hc := isSrcT_s l (by omega) hg0 hS)) ?_ | refine AL.W ?_ | refine AL.W (h := fun h => by (try rw [h]); exact POp.k Tryz.func78 (hc := isSrcT_s l (by omega) hg0 hS)) ?_ | refine AL.nil ?_)
    | (refine iAW ?_; first | (refine AW.freezeRet (t := 2) (id := 0) rfl rfl rfl rfl (clo_rows TPlace.clo_en) ?_; (try simp only [List.take_length]); try dsimp only [dput, List.set, cond_true, cond_false, Nat.zero_add, Nat.add_zero, Nat.reduceAdd, splice, List.take, List.drop, List.length, List.nil_append, List.cons_append, List.append, TPoint.en, TSegment.en, TBox.en, TFeature.en, TMeet.en, TPlace.en, TCover.en, TLabel.en, TPiece.en, TLevel.en, TChart.en, TReason.en, TEdit.en, TEntry.en, TEdition.en, TListing.en, TAtlas.en, TEvent.en, TWindow.en]) | (refine AW.c0 ?_; constructor) | refine AW.cT ?_ | refine AW.cF ?_ | (refine AW.c2 ?_ ?_ <;> (intro h; try simp only [bT, bF] at h)))
    | (refine AW.loopD hE (fun i : Nat => [.ro 5 (l.map TFeature.en), .any, .any, .own 0 (ancTo l i).length, I (i : Int), .any, .any, .any, .any, .any, .any, .any, .any, .any, .any, .any, .any, .any, .any, .any, .any, .any, .any, .any, .any, .any, .any, .any, .any, .any, .any, .any, .any, .any, .any, .any, .any, .any, .any, .any, .any, .any, .any, .any, .any, .any, .any, .any, .any, .any, .any, .any]) (fun i => [some ⟨187, 4, (ancTo l i).length, false, (ancTo l i).map TPlace.en⟩]) (fun i => l.length - i) (fun i => i ≤ l.length) 0 (by simp) ?_ (by first | rfl | (simp [fil_zero]; done)) ?_
       (focus ((repeat' (first | exact Wk.nil | refine Wk.any ?_ | (with_reducible refine Wk.same ?_) | refine Wk.of ?_ ?_)) <;> first | rfl | (rfl)))
       intro i hi
       by_cases hlt : i < l.length
       case' pos =>
         have hP := True.intro
         obtain ⟨x, hx⟩ : ∃ x, l[i]? = some x := ⟨_, List.getElem?_eq_getElem hlt⟩
         have hg := map_get (f := TFeature.en) hx
         have ht := lt_true (f := TFeature.en) hlt
         have hn := next_ix hlt (by omega)
         have hgx := hg0 x (List.mem_of_getElem? hx)
         have hfx := src_feat hS hx
         have hcle : Clo (.agg x.en) := Clo.agg x.clo_en
         have hclP : Clo (.ro 2 (x.points.map TPoint.en)) := clo_list TPoint.clo_en
         have hln := ancTo_len l i
         have hlx := hgx.1
         obtain ⟨hm0, hmg, _⟩ := mid_get hfx hlx
         rcases Bool.eq_false_or_eq_true (noName x.name) with hk | hk
         case' inl => obtain ⟨hm, hm2⟩ := ancTo_n hx hk
         case' inr =>
           obtain ⟨hm, hm2⟩ := ancTo_y hx hk
           rcases an_cases hfx with ⟨k1, k2, k3, ka, kg⟩ | ⟨k1, k2, k3, ka⟩ | ⟨k1, k2, k3, ka, hr⟩
         all_goals try (unfold ancOf at hm; rw [ka] at hm; dsimp only [TPlace.en, TPoint.en, List.append_eq, List.cons_append, List.nil_append] at hm)
       case' neg =>
         have hQ := True.intro
         have ht := lt_false (f := TFeature.en) hlt
         have e : i = l.length := by omega
         subst e
         try rw [List.take_length]
         rw [ancTo_all])
    | with_reducible refine ifP ?_
    | with_reducible refine ifN ?_) <;> (try dsimp only))
  all_goals first
    | (have _ := hP; (refine ⟨i + 1, _, hlt, by omega, ?_, by rw [hm, hm2] <;> rfl, ?_, ?_⟩; (focus ((repeat' (first | exact Wk.nil | refine Wk.any ?_ | (with_reducible refine Wk.same ?_) | refine Wk.of ?_ ?_)) <;> (first | rfl | (rw [hn]; done) | (rw [hm2]; done)))); (focus (exact fitsA)); (focus (exact fits_row (clo_rows TPlace.clo_en)))))
    | (have _ := hQ; exact Fin.one rfl (RV.tmp (by rfl)) (clo_list TPlace.clo_en) ⟨rfl, rfl⟩)

theorem anc_i (l : List TFeature) (hS : isSource l = true) (hg0 : ∀ x ∈ l, x.gd) : VCalls Tryz.prog 212 [.ro 5 (l.map TFeature.en)] (fun r M => r = .ro 4 ((ancs l).map TPlace.en) ∧ M = []) := by
  refine VB Tryz.func212 60 (fun E hE => ?_)
  have hclo : Clo (.ro 5 (l.map TFeature.en)) := clo_list TFeature.clo_en
  have hsl := src_len hS
  repeat' ((first
    | (refine iAL ?_; first | refine AL.any ?_ | refine AL.any (h := POp.k Tryz.func80 (hc := isSrcT_i l (by omega) hg0 hS)) ?_ | refine AL.any (h := POp.k Tryz.func281 (hc := mid_i x.points hlx hr)) ?_ | refine AL.nil ?_)
    | (refine iAW ?_; first | (refine AW.freezeRet (t := 2) (id := 0) rfl rfl rfl rfl (clo_rows TPlace.clo_en) ?_; (try simp only [List.take_length]); try dsimp only [dput, List.set, cond_true, cond_false, Nat.zero_add, Nat.add_zero, Nat.reduceAdd, splice, List.take, List.drop, List.length, List.nil_append, List.cons_append, List.append, TPoint.en, TSegment.en, TBox.en, TFeature.en, TMeet.en, TPlace.en, TCover.en, TLabel.en, TPiece.en, TLevel.en, TChart.en, TReason.en, TEdit.en, TEntry.en, TEdition.en, TListing.en, TAtlas.en, TEvent.en, TWindow.en]) | (refine AW.c0 ?_; constructor) | refine AW.cT ?_ | refine AW.cF ?_ | (refine AW.c2 ?_ ?_ <;> (intro h; try simp only [bT, bF] at h)))
    | (refine AW.loopD hE (fun i : Nat => [.any, .any, .any, .own 0 (ancTo l i).length, .any, .any, .any, .any, .any, .any, .any, .any, .ro 5 (l.map TFeature.en), I ((l.map TFeature.en).length : Int), I (i : Int), .any, .any, .any, .any, .any, .any, .any, .any, .any, .any, .any, .any, .any, .any, .any, .any, .any, .any, .any, .any, .any, .any, .any, .any, .any, .any, .any, .any, .any, .any, .any, .any, .any, .any, .any, .any, .any, .any, .any, .any, .any, .any, .any, .any, .any, .any]) (fun i => [some ⟨187, 4, (ancTo l i).length, false, (ancTo l i).map TPlace.en⟩]) (fun i => l.length - i) (fun i => i ≤ l.length) 0 (by simp) ?_ (by first | rfl | (simp [fil_zero]; done)) ?_
       (focus ((repeat' (first | exact Wk.nil | refine Wk.any ?_ | (with_reducible refine Wk.same ?_) | refine Wk.of ?_ ?_)) <;> first | rfl | (rfl)))
       intro i hi
       by_cases hlt : i < l.length
       case' pos =>
         have hP := True.intro
         obtain ⟨x, hx⟩ : ∃ x, l[i]? = some x := ⟨_, List.getElem?_eq_getElem hlt⟩
         have hg := map_get (f := TFeature.en) hx
         have ht := lt_true (f := TFeature.en) hlt
         have hn := next_ix hlt (by omega)
         have hgx := hg0 x (List.mem_of_getElem? hx)
         have hfx := src_feat hS hx
         have hcle : Clo (.agg x.en) := Clo.agg x.clo_en
         have hclP : Clo (.ro 2 (x.points.map TPoint.en)) := clo_list TPoint.clo_en
         have hln := ancTo_len l i
         have hlx := hgx.1
         obtain ⟨hm0, hmg, _⟩ := mid_get hfx hlx
         rcases Bool.eq_false_or_eq_true (noName x.name) with hk | hk
         case' inl => obtain ⟨hm, hm2⟩ := ancTo_n hx hk
         case' inr =>
           obtain ⟨hm, hm2⟩ := ancTo_y hx hk
           rcases an_cases hfx with ⟨k1, k2, k3, ka, kg⟩ | ⟨k1, k2, k3, ka⟩ | ⟨k1, k2, k3, ka, hr⟩
         all_goals try (unfold ancOf at hm; rw [ka] at hm; dsimp only [TPlace.en, TPoint.en, List.append_eq, List.cons_append, List.nil_append] at hm)
       case' neg =>
         have hQ := True.intro
         have ht := lt_false (f := TFeature.en) hlt
         have e : i = l.length := by omega
         subst e
         try rw [List.take_length]
         rw [ancTo_all])
    | with_reducible refine ifP ?_
    | with_reducible refine ifN ?_) <;> (try dsimp only))
  all_goals first
    | (have _ := hP; (refine ⟨i + 1, _, hlt, by omega, ?_, by rw [hm, hm2] <;> rfl, ?_, ?_⟩; (focus ((repeat' (first | exact Wk.nil | refine Wk.any ?_ | (with_reducible refine Wk.same ?_) | refine Wk.of ?_ ?_)) <;> (first | rfl | (rw [hn]; done) | (rw [hm2]; done)))); (focus (exact fitsA)); (focus (exact fits_row (clo_rows TPlace.clo_en)))))
    | (have _ := hQ; exact Fin.one rfl (RV.tmp (by rfl)) (clo_list TPlace.clo_en) ⟨rfl, rfl⟩)

end Go.Proofs.YtpffahmmklpifaaGreat.Abs

/- The walk of PlaceNames (program). -/
namespace Go.Proofs.YtpffahmmklpifaaGreat.Abs
open Go.Proofs Go.RowKit
set_option linter.unusedVariables false
set_option linter.unusedSimpArgs false
set_option maxRecDepth 100000
set_option maxHeartbeats 2000000
attribute [local irreducible] OpA AL AW DL DLM DLR DLS QOp POp VCalls VCallsI
attribute [local irreducible] frC labB lbOk pnTo fnd srtA ancs
theorem pln_i (l : List TFeature) (hS : isSource l = true) (hg0 : ∀ x ∈ l, x.gd) : VCalls Tryz.prog 143 [.ro 5 (l.map TFeature.en)] (fun r M => r = .own 0 0 ∧ M = [some ⟨174, 6, 0, false, (plN l).map TLabel.en⟩]) := by
  refine VB Tryz.func143 59 (fun E hE => ?_)
  have hclo : Clo (.ro 5 (l.map TFeature.en)) := clo_list TFeature.clo_en
  have hsl := src_len hS
  have hl1 : l.length ≤ 1048576 := by omega
  have hok := ancs_ok hS hg0
  have hSl : (srtA (ancs l)).length ≤ 16 := by rw [srtA_len]; exact hok.len
  have hclA : Clo (.ro 4 ((ancs l).map TPlace.en)) := clo_list TPlace.clo_en
  have hclS : Clo (.ro 4 ((srtA (ancs l)).map TPlace.en)) := clo_list TPlace.clo_en
  repeat' ((first
    | (refine iAL ?_; first | refine AL.any ?_ | refine AL.any (h := POp.k Tryz.func149 (hc := find_i l x.id hl1)) ?_ | refine AL.any (h := POp.k Tryz.func211 (hc := frAb' (ancs l) hok)) ?_ | refine AL.any (h := POp.k Tryz.func212 (hc := anc_i l hS hg0)) ?_ | refine AL.any (h := POp.kv Tryz.func213 (hc := fc_i x.at_ f.name hisp hisn ((pnTo l (srtA (ancs l)) i).map (·.box)) hTK)) ?_ | refine AL.any (h := POp.k Tryz.func214 (hc := lab_i x.at_ f.name (frC x.at_ f.name ((pnTo l (srtA (ancs l)) i).map (·.box))) hisp hisn hk3)) ?_ | refine AL.any (h := POp.H [0] Tryz.func215 (hc := sortL (pnA l) (pnA_nodup hS hg0) (by have := pnA_len hS hg0; omega))) ?_ | refine AL.nil ?_)
    | (refine iAW ?_; first | (refine AW.c0 ?_; constructor) | refine AW.cT ?_ | refine AW.cF ?_ | (refine AW.c2 ?_ ?_ <;> (intro h; try simp only [bT, bF] at h)))
    | (refine AW.loopD hE (fun i : Nat => [.ro 5 (l.map TFeature.en), .any, .any, .own 0 (pnTo l (srtA (ancs l)) i).length, .own 1 (pnTo l (srtA (ancs l)) i).length, .any, .any, .any, .any, .any, .any, .any, .any, .any, .any, .ro 4 ((srtA (ancs l)).map TPlace.en), I (((srtA (ancs l)).map TPlace.en).length : Int), I (i : Int), .any, .any, .any, .any, .any, .any, .any, .any, .any, .any, .any, .any, .any, .any, .any, .any, .any, .any, .any, .any, .any, .any, .any, .any, .any, .any, .any, .any, .any, .any, .any, .any, .any, .any, .any, .any, .any, .any, .any, .any, .any, .any]) (fun i => [some ⟨174, 6, (pnTo l (srtA (ancs l)) i).length, false, (pnTo l (srtA (ancs l)) i).map TLabel.en⟩, some ⟨143, 4, (pnTo l (srtA (ancs l)) i).length, false, ((pnTo l (srtA (ancs l)) i).map (·.box)).map TBox.en⟩]) (fun i => (srtA (ancs l)).length - i) (fun i => i ≤ (srtA (ancs l)).length) 0 (by simp) ?_ (by first | rfl | ((simp [pnTo]))) ?_
       (focus ((repeat' (first | exact Wk.nil | refine Wk.any ?_ | (with_reducible refine Wk.same ?_) | refine Wk.of ?_ ?_)) <;> first | rfl | (first | rfl | (simp [pnTo]))))
       intro i hi
       by_cases hlt : i < (srtA (ancs l)).length
       case' pos =>
         have hP := True.intro
         obtain ⟨x, hx⟩ : ∃ x, (srtA (ancs l))[i]? = some x := ⟨_, List.getElem?_eq_getElem hlt⟩
         have hg := map_get (f := TPlace.en) hx
         have ht := lt_true (f := TPlace.en) hlt
         have hn := next_ix hlt (by omega)
         have hcle : Clo (.agg x.en) := Clo.agg x.clo_en
         obtain ⟨j, f, hj, hfd, hnm, hisn, hisp⟩ := anc_feat hS hg0 (List.mem_of_getElem? hx)
         have hgj : (l.map TFeature.en)[(fnd l x.id).toNat]? = some f.en := by rw [hfd, Int.toNat_natCast, List.getElem?_map, hj]; rfl
         have h0j : 0 ≤ fnd l x.id := by omega
         have hpl := pnTo_len l (srtA (ancs l)) i
         have hTK : ((pnTo l (srtA (ancs l)) i).map (·.box)).length ≤ 1048576 := by rw [List.length_map]; omega
         have hclT : Clo (.ro 4 (((pnTo l (srtA (ancs l)) i).map (·.box)).map TBox.en)) := clo_list TBox.clo_en
         have hcrT : ∀ r ∈ ((pnTo l (srtA (ancs l)) i).map (·.box)).map TBox.en, ∀ y ∈ r, Clo y := clo_rows TBox.clo_en
         have hclB : Clo (.agg (labB x.at_ f.name (frC x.at_ f.name ((pnTo l (srtA (ancs l)) i).map (·.box)))).en) := Clo.agg (TBox.clo_en _)
         have hclU : Clo (.tup [.agg (labB x.at_ f.name (frC x.at_ f.name ((pnTo l (srtA (ancs l)) i).map (·.box)))).en, B (lbOk x.at_ f.name (frC x.at_ f.name ((pnTo l (srtA (ancs l)) i).map (·.box))))]) := Clo.tup (clo_cons hclB (clo_cons (clo_c _) clo_nil))
         rcases Bool.eq_false_or_eq_true (decide ((frC x.at_ f.name ((pnTo l (srtA (ancs l)) i).map (·.box))) < 0)) with hk | hk
         case' inl =>
           have hkg : decide ((frC x.at_ f.name ((pnTo l (srtA (ancs l)) i).map (·.box))) ≥ 0) = false := by simp at hk ⊢; omega
           have hm := pnTo_n hx (by rw [pnC, hnm]; exact hk)
         case' inr =>
           have hkg : decide ((frC x.at_ f.name ((pnTo l (srtA (ancs l)) i).map (·.box))) ≥ 0) = true := by simp at hk ⊢; omega
           have hk3 : inr (frC x.at_ f.name ((pnTo l (srtA (ancs l)) i).map (·.box))) 0 3 = true := by rcases frC_ge (p := x.at_) (s := f.name) (tk := ((pnTo l (srtA (ancs l)) i).map (·.box))) with he | he; (rw [he] at hkg; cases hkg); exact he.1
           have hm0 := pnTo_y hx (by rw [pnC, hnm]; exact hk)
           have hm1 : (pnTo l (srtA (ancs l)) (i + 1)).map TLabel.en = (pnTo l (srtA (ancs l)) i).map TLabel.en ++ [[I x.id, S f.name, I (labB x.at_ f.name (frC x.at_ f.name ((pnTo l (srtA (ancs l)) i).map (·.box)))).low.x, I (labB x.at_ f.name (frC x.at_ f.name ((pnTo l (srtA (ancs l)) i).map (·.box)))).low.y, I (labB x.at_ f.name (frC x.at_ f.name ((pnTo l (srtA (ancs l)) i).map (·.box)))).high.x, I (labB x.at_ f.name (frC x.at_ f.name ((pnTo l (srtA (ancs l)) i).map (·.box)))).high.y]] := by rw [hm0, List.map_append, pnL, hnm]; rfl
           have hm2 : ((pnTo l (srtA (ancs l)) (i + 1)).map (·.box)).map TBox.en = ((pnTo l (srtA (ancs l)) i).map (·.box)).map TBox.en ++ [[I (labB x.at_ f.name (frC x.at_ f.name ((pnTo l (srtA (ancs l)) i).map (·.box)))).low.x, I (labB x.at_ f.name (frC x.at_ f.name ((pnTo l (srtA (ancs l)) i).map (·.box)))).low.y, I (labB x.at_ f.name (frC x.at_ f.name ((pnTo l (srtA (ancs l)) i).map (·.box)))).high.x, I (labB x.at_ f.name (frC x.at_ f.name ((pnTo l (srtA (ancs l)) i).map (·.box)))).high.y]] := by rw [hm0, List.map_append, List.map_append, pnL, hnm]; rfl
           have hm3 : (pnTo l (srtA (ancs l)) (i + 1)).length = (pnTo l (srtA (ancs l)) i).length + 1 := by rw [hm0]; simp
       case' neg =>
         have hQ := True.intro
         have ht := lt_false (f := TPlace.en) hlt
         have e : i = (srtA (ancs l)).length := by omega
         subst e
         try rw [List.take_length]
         rw [pnTo_all])
    | with_reducible refine ifP ?_
    | with_reducible refine ifN ?_) <;> (try dsimp only))
  all_goals first
    | (have _ := hP; (refine ⟨i + 1, _, hlt, by omega, ?_, by first | (rw [hm1, hm2, hm3] <;> rfl) | (rw [hm] <;> rfl), ?_, ?_⟩; (focus ((repeat' (first | exact Wk.nil | refine Wk.any ?_ | (with_reducible refine Wk.same ?_) | refine Wk.of ?_ ?_)) <;> (first | rfl | (rw [hn]; done) | (rw [hm3]; done) | (rw [hm]; done)))); (focus (exact fitsA)); (focus (exact fitsM_cons (clo_rows TLabel.clo_en) (fitsM_cons (clo_rows TBox.clo_en) (FitsM.nil _))))))
    | (have _ := hQ; exact Fin.r1 [0] rfl (RV.tmp (by rfl)) ⟨rfl, rfl⟩)

theorem pln_i' (l : List TFeature) (hS : isSource l = true) (hg0 : ∀ x ∈ l, x.gd) : VCalls Tryz.prog 143 [.ro 5 (l.map TFeature.en)] (fun r M => r = .ro 6 ((plN l).map TLabel.en) ∧ M = []) := VCalls.frz (pln_i l hS hg0) vwlT
end Go.Proofs.YtpffahmmklpifaaGreat.Abs
