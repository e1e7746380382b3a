/- Part F of the walk over abstract states and of the functions' walks. -/
import Derived.Test.YtpffahmmklpifaaGreatWkStep
import Derived.Test.YtpffahmmklpifaaGreatBnE
import Derived.Test.YtpffahmmklpifaaGreatBnA
import Derived.Test.YtpffahmmklpifaaGreatBnD
import Derived.Test.YtpffahmmklpifaaGreatBnC
import Derived.Test.YtpffahmmklpifaaGreatAbsTG
/- The walks of CornersFor, isFree and FreeCorner. -/
namespace Go.Proofs.YtpffahmmklpifaaGreat.Abs
open Go.Proofs Go.RowKit
set_option linter.unusedVariables false
set_option linter.unusedSimpArgs false
set_option maxRecDepth 100000
set_option maxHeartbeats 2000000
attribute [local irreducible] OpA AL AW DL DLM DLR DLS QOp POp VCalls VCallsI
theorem cor_s (p : TPoint) (s : ByteArray) (hp : isp p.x p.y = true) (hs : isName s = true) : VCalls Tryz.prog 273 [.agg p.en, S s] (fun r M => r = .ro 1 ((cors p s).map enI) ∧ M = []) := by
 refine VB Tryz.func273 25 (fun E hE => ?_)
 have hclp : Clo (.agg p.en) := Clo.agg p.clo_en
 have hm := name_max hs
 have hb := name_len hs
 repeat' ((first
  | (refine iAL ?_; first | refine AL.any ?_ | refine AL.any (h := POp.k Tryz.func206 (hc := lab_s p s (i : Int) hp hs hk3)) ?_ | refine AL.nil ?_)
  | (refine iAW ?_; first | (refine AW.freezeRet (t := 4) (id := 1) rfl rfl rfl rfl (clo_rows clo_enI) ?_; (try simp only [List.take_length]); try dsimp only [dput, List.set, cond_true, cond_false, Nat.zero_add, Nat.add_zero, Nat.reduceAdd, splice, List.take, List.drop, List.length, List.nil_append, List.cons_append, List.append, TPoint.en, TSegment.en, TBox.en, TFeature.en, TMeet.en, TPlace.en, TCover.en, TLabel.en, TPiece.en, TLevel.en, TChart.en, TReason.en, TEdit.en, TEntry.en, TEdition.en, TListing.en, TAtlas.en, TEvent.en, TWindow.en]) | (refine AW.c0 ?_; constructor) | refine AW.cT ?_ | refine AW.cF ?_)
  | (
 refine AW.loopD hE (fun i : Nat => [.any, S s, .ref 0 0 2 0 0, .any, .any, .own 1 (crTo p s i).length, I (i : Int), .any, .any, .any, .any, .any, .any, .any, .any, .any, .any, .any, .any, .any, .any, .any, .any, .any, .any, .any, .any]) (fun i => [some ⟨141, 2, 0, true, [p.en]⟩, some ⟨3, 1, (crTo p s i).length, false, (crTo p s i).map enI⟩]) (fun i => 4 - i) (fun i => i ≤ 4) 0 (Nat.zero_le _) ?_ (by first | rfl | (simp [fil_zero]; done)) ?_
 (focus (exact wkI))
 intro i hi
 by_cases hlt : i < 4
 case' pos =>
  have hP := True.intro
  have hk3 := nat03 hlt
  have hcll : Clo (.agg (labB p s (i : Int)).en) := Clo.agg (TBox.clo_en _)
  have hclt : Clo (.tup [.agg (labB p s (i : Int)).en, B (lbOk p s (i : Int))]) := Clo.tup (clo_cons hcll (clo_cons (clo_c _) clo_nil))
  have hln := crTo_len p s i
  have ht : decide ((i : Int) < 4) = true := decide_eq_true (by omega)
  have hn : IntKind.i64.wrap ((i : Int) + 1) = ((i + 1 : Nat) : Int) := by rw [w64 (by omega) (by omega)]; rfl
  rcases Bool.eq_false_or_eq_true (lbOk p s (i : Int)) with hk | hk
  case' inl => obtain ⟨hm1, hm2⟩ := crTo_y hk
  case' inr => obtain ⟨hm1, hm2⟩ := crTo_n hk
 case' neg =>
  have hQ := True.intro
  have e : i = 4 := by omega
  have ht : decide ((i : Int) < 4) = false := decide_eq_false (by omega)
  subst e)) <;> (try dsimp only))
 all_goals first
  | (have _ := hP; (refine ⟨i + 1, _, hlt, by omega, ?_, by rw [hm1, hm2] <;> rfl, ?_, ?_⟩; (focus (exact wkH)); (focus (exact fitsA)); (focus (exact fitsM_cons (clo_one p.clo_en) (fitsM_cons (clo_rows clo_enI) (FitsM.nil _))))))
  | (have _ := hQ; exact Fin.one rfl (RV.tmp (by rfl)) (clo_list clo_enI) ⟨rfl, rfl⟩)

theorem cor_i (p : TPoint) (s : ByteArray) (hp : isp p.x p.y = true) (hs : isName s = true) : VCalls Tryz.prog 282 [.agg p.en, S s] (fun r M => r = .ro 1 ((cors p s).map enI) ∧ M = []) := by
 refine VB Tryz.func282 25 (fun E hE => ?_)
 have hclp : Clo (.agg p.en) := Clo.agg p.clo_en
 have hm := name_max hs
 have hb := name_len hs
 repeat' ((first
  | (refine iAL ?_; first | refine AL.any ?_ | refine AL.any (h := POp.k Tryz.func214 (hc := lab_i p s (i : Int) hp hs hk3)) ?_ | refine AL.nil ?_)
  | (refine iAW ?_; first | (refine AW.freezeRet (t := 4) (id := 1) rfl rfl rfl rfl (clo_rows clo_enI) ?_; (try simp only [List.take_length]); try dsimp only [dput, List.set, cond_true, cond_false, Nat.zero_add, Nat.add_zero, Nat.reduceAdd, splice, List.take, List.drop, List.length, List.nil_append, List.cons_append, List.append, TPoint.en, TSegment.en, TBox.en, TFeature.en, TMeet.en, TPlace.en, TCover.en, TLabel.en, TPiece.en, TLevel.en, TChart.en, TReason.en, TEdit.en, TEntry.en, TEdition.en, TListing.en, TAtlas.en, TEvent.en, TWindow.en]) | (refine AW.c0 ?_; constructor) | refine AW.cT ?_ | refine AW.cF ?_)
  | (
 refine AW.loopD hE (fun i : Nat => [.any, S s, .ref 0 0 2 0 0, .any, .any, .own 1 (crTo p s i).length, .any, .any, .any, .any, I (i : Int), .any, .any, .any, .any, .any, .any, .any, .any, .any, .any, .any, .any, .any, .any, .any, .any]) (fun i => [some ⟨141, 2, 0, true, [p.en]⟩, some ⟨3, 1, (crTo p s i).length, false, (crTo p s i).map enI⟩]) (fun i => 4 - i) (fun i => i ≤ 4) 0 (Nat.zero_le _) ?_ (by first | rfl | (simp [fil_zero]; done)) ?_
 (focus (exact wkI))
 intro i hi
 by_cases hlt : i < 4
 case' pos =>
  have hP := True.intro
  have hk3 := nat03 hlt
  have hcll : Clo (.agg (labB p s (i : Int)).en) := Clo.agg (TBox.clo_en _)
  have hclt : Clo (.tup [.agg (labB p s (i : Int)).en, B (lbOk p s (i : Int))]) := Clo.tup (clo_cons hcll (clo_cons (clo_c _) clo_nil))
  have hln := crTo_len p s i
  have ht : decide ((i : Int) < 4) = true := decide_eq_true (by omega)
  have hn : IntKind.i64.wrap ((i : Int) + 1) = ((i + 1 : Nat) : Int) := by rw [w64 (by omega) (by omega)]; rfl
  rcases Bool.eq_false_or_eq_true (lbOk p s (i : Int)) with hk | hk
  case' inl => obtain ⟨hm1, hm2⟩ := crTo_y hk
  case' inr => obtain ⟨hm1, hm2⟩ := crTo_n hk
 case' neg =>
  have hQ := True.intro
  have e : i = 4 := by omega
  have ht : decide ((i : Int) < 4) = false := decide_eq_false (by omega)
  subst e)) <;> (try dsimp only))
 all_goals first
  | (have _ := hP; (refine ⟨i + 1, _, hlt, by omega, ?_, by rw [hm1, hm2] <;> rfl, ?_, ?_⟩; (focus (exact wkH)); (focus (exact fitsA)); (focus (exact fitsM_cons (clo_one p.clo_en) (fitsM_cons (clo_rows clo_enI) (FitsM.nil _))))))
  | (have _ := hQ; exact Fin.one rfl (RV.tmp (by rfl)) (clo_list clo_enI) ⟨rfl, rfl⟩)

theorem free_i (b : TBox) (tk : List TBox) (htk : tk.length ≤ 1048576) : VCalls Tryz.prog 283 [.agg b.en, .ro 4 (tk.map TBox.en)] (fun r M => r = B (freeB b tk) ∧ M = []) := by
 refine VB Tryz.func283 15 (fun E hE => ?_)
 have hclo : Clo (.ro 4 (tk.map TBox.en)) := clo_list TBox.clo_en
 have hclb : Clo (.agg b.en) := Clo.agg b.clo_en
 repeat' ((first
  | (refine iAL ?_; first | refine AL.any ?_ | refine AL.any (h := POp.k Tryz.func219 (hc := ov_i b t)) ?_ | refine AL.nil ?_)
  | (refine iAW ?_; first | (refine AW.c0 ?_; constructor) | refine AW.cT ?_ | refine AW.cF ?_)
  | (
 refine AW.loopD hE (fun i : Nat => [.any, .any, .ref 0 0 4 0 0, .any, .any, .any, .any, .ro 4 (tk.map TBox.en), I ((tk.map TBox.en).length : Int), I (i : Int), .any, .any, .any, .any, .any, .any, .any]) (fun i => [some ⟨143, 4, 0, true, [b.en]⟩]) (fun i => tk.length - i) (fun i => i ≤ tk.length ∧ (tk.take i).all (noOv b) = true) 0 ⟨Nat.zero_le _, rfl⟩ ?_ (by first | rfl | (simp [fil_zero]; done)) ?_
 (focus (exact wkI))
 intro i hi
 by_cases hlt : i < tk.length
 case' pos =>
  have hP := True.intro
  obtain ⟨t, hx⟩ : ∃ x, tk[i]? = some x := ⟨_, List.getElem?_eq_getElem hlt⟩
  have hg := map_get (f := TBox.en) hx
  have ht := lt_true (f := TBox.en) hlt
  have hn := next_ix hlt (by omega)
  have hclt : Clo (.agg t.en) := Clo.agg t.clo_en
  rcases Bool.eq_false_or_eq_true (ovB b t) with hov | hov
  case' inl => have hres := free_no hx (show noOv b t = false by rw [noOv, hov]; rfl)
  case' inr => have hjn := all_take_y' hx hi.2 (show noOv b t = true by rw [noOv, hov]; rfl)
 case' neg =>
  have hQ := True.intro
  have ht := lt_false (f := TBox.en) hlt
  have e : i = tk.length := by omega
  subst e
  try rw [List.take_length])) <;> (try dsimp only))
 all_goals first
  | (have _ := hP; (refine ⟨i + 1, _, ⟨hlt, hjn⟩, by omega, ?_, rfl, ?_, ?_⟩; (focus (exact wkH)); (focus (exact fitsA)); (focus (exact fitsM_cons (clo_one b.clo_en) (FitsM.nil _)))))
  | (have _ := hP; exact Fin.one rfl (RV.tmp (by rfl)) (clo_c _) ⟨by rw [hres], rfl⟩)
  | (have _ := hQ; exact Fin.one rfl (RV.tmp (by rfl)) (clo_c _) ⟨by (have h2 := hi.2; rw [List.take_length] at h2; rw [freeB, h2]), rfl⟩)

theorem fc_i (p : TPoint) (s : ByteArray) (hp : isp p.x p.y = true) (hs : isName s = true) (tk : List TBox) (htk : tk.length ≤ 1048576) : VCalls Tryz.prog 213 [.agg p.en, S s, .ro 4 (tk.map TBox.en)] (fun r M => r = I (frC p s tk) ∧ M = []) := by
 refine VB Tryz.func213 28 (fun E hE => ?_)
 have hclp : Clo (.agg p.en) := Clo.agg p.clo_en
 have hm := name_max hs
 have hb := name_len hs
 have hclo : Clo (.ro 4 (tk.map TBox.en)) := clo_list TBox.clo_en
 have hclK : Clo (.ro 1 ((cors p s).map enI)) := clo_list clo_enI
 have hcl4 := cors_len p s
 repeat' ((first
  | (refine iAL ?_; first | refine AL.any ?_ | refine AL.any (h := POp.k Tryz.func214 (hc := lab_i p s k hp hs hk3)) ?_ | refine AL.any (h := POp.k Tryz.func282 (hc := cor_i _ _ (by assumption) (by assumption))) ?_ | refine AL.any (h := POp.k Tryz.func283 (hc := free_i (labB p s k) tk htk)) ?_ | refine AL.nil ?_)
  | (refine iAW ?_; first | (refine AW.c0 ?_; constructor) | refine AW.cT ?_ | refine AW.cF ?_)
  | (
 refine AW.loopD hE (fun i : Nat => [.any, S s, .ro 4 (tk.map TBox.en), .ref 0 0 2 0 0, .any, .any, .any, .any, .any, .any, .any, .any, .any, .ro 1 ((cors p s).map enI), I (((cors p s).map enI).length : Int), I (i : Int), .any, .any, .any, .any, .any, .any, .any, .any, .any, .any, .any, .any, .any, .any, .any]) (fun i => [some ⟨141, 2, 0, true, [p.en]⟩]) (fun i => (cors p s).length - i) (fun i => i ≤ (cors p s).length ∧ ((cors p s).take i).all (fun y => !frK p s tk y) = true) 0 ⟨Nat.zero_le _, rfl⟩ ?_ (by first | rfl | (simp [fil_zero]; done)) ?_
 (focus (exact wkI))
 intro i hi
 by_cases hlt : i < (cors p s).length
 case' pos =>
  have hP := True.intro
  obtain ⟨k, hx⟩ : ∃ x, (cors p s)[i]? = some x := ⟨_, List.getElem?_eq_getElem hlt⟩
  have hg := map_get (f := enI) hx
  have ht := lt_true (f := enI) hlt
  have hn := next_ix hlt (by omega)
  have hk3 := (cors_mem (List.mem_of_getElem? hx)).1
  have hcll : Clo (.agg (labB p s k).en) := Clo.agg (TBox.clo_en _)
  have hclt : Clo (.tup [.agg (labB p s k).en, B (lbOk p s k)]) := Clo.tup (clo_cons hcll (clo_cons (clo_c _) clo_nil))
  rcases Bool.eq_false_or_eq_true (freeB (labB p s k) tk) with hfr | hfr
  case' inl => have hres := frC_at hx hfr hi.2
  case' inr => have hjn := all_take_y' (p := fun y => !frK p s tk y) hx hi.2 (by unfold frK; rw [hfr]; rfl)
 case' neg =>
  have hQ := True.intro
  have ht := lt_false (f := enI) hlt
  have e : i = (cors p s).length := by omega
  subst e
  try rw [List.take_length])) <;> (try dsimp only))
 all_goals first
  | (have _ := hP; (refine ⟨i + 1, _, ⟨hlt, hjn⟩, by omega, ?_, rfl, ?_, ?_⟩; (focus (exact wkH)); (focus (exact fitsA)); (focus (exact fitsM_cons (clo_one p.clo_en) (FitsM.nil _)))))
  | (have _ := hP; exact Fin.one rfl (RV.tmp (by rfl)) (clo_c _) ⟨by rw [hres], rfl⟩)
  | (have _ := hQ; exact Fin.one rfl (RV.tmp (by rfl)) (clo_c _) ⟨by rw [frC_no hi.2], rfl⟩)

theorem fc_s (p : TPoint) (s : ByteArray) (hp : isp p.x p.y = true) (hs : isName s = true) (tk : List TBox) (htk : tk.length ≤ 1048576) : VCalls Tryz.prog 205 [.agg p.en, S s, .ro 4 (tk.map TBox.en)] (fun r M => r = I (frC p s tk) ∧ M = []) := by
 refine VB Tryz.func205 50 (fun E hE => ?_)
 have a1 := True.intro
 have hclp : Clo (.agg p.en) := Clo.agg p.clo_en
 have hm := name_max hs
 have hb := name_len hs
 have hclo : Clo (.ro 4 (tk.map TBox.en)) := clo_list TBox.clo_en
 have hclK : Clo (.ro 1 ((cors p s).map enI)) := clo_list clo_enI
 have hcl4 := cors_len p s
 repeat' ((first
  | (refine iAL ?_; first | refine AL.any ?_ | refine AL.any (h := POp.k Tryz.func273 (hc := cor_s _ _ (by assumption) (by assumption))) ?_ | refine AL.F ?_ | refine AL.T ?_ | refine AL.T (h := POp.k Tryz.func218 (hc := ov_s (labB p s k) t)) ?_ | refine AL.nil ?_)
  | ((with_reducible show DL ..); first | refine DL.any ?_ | refine DL.F ?_ | refine DL.T ?_ | refine DL.nil ?_)
  | ((with_reducible show DLR ..); first | refine DLR.any ?_ | refine DLR.alloc rfl rfl (by first | exact ze2 | exact ze3 | exact ze4 | exact ze6 | exact ze7 | exact ze8 | exact ze9 | exact ze11 | exact ze12 | exact ze15 | exact ze16 | exact ze17 | exact ze18 | exact ze21 | exact ze22 | exact ze23 | exact ze24 | exact ze25 | exact ze26 | exact ze27 | exact ze31 | exact ze32 | exact ze33 | exact ze34 | exact ze36 | exact ze41 | exact ze42 | exact ze45 | exact ze47 | exact ze56 | exact ze81 | exact ze129 | exact ze135 | exact ze141 | exact ze143 | exact ze220) rfl rfl ?_ | refine DLR.store rfl rfl (by rfl) rfl rfl rfl rfl rfl (by rfl) (by rfl) (TT_ok.ld _ _ (by rfl)) (by rfl) (by rfl) rfl ?_ | refine DLR.any (h := fun Y => POp.k Tryz.func206 (hc := lab_s p s k hp hs hk3)) ?_ | refine DLR.nil ?_)
  | (refine iAW ?_; first | (refine AW.c0 ?_; constructor) | refine AW.drawnR (id := 5) 12 1 [none, none, none, none, none, none, none, none, none, none, some 0, some 0] [some Rsv] rfl (by kernel_rfl) (by kernel_rfl) (by kernel_rfl) (by rfl) ?_ | refine AW.dr (id := 10) 7 ?_ | refine AW.cT ?_ | refine AW.cF ?_)
  | (
 have _ := a1
 clear a1
 refine AW.loopD hE (fun s_ : Nat => [.any, S s, .ro 4 (tk.map TBox.en), .ref 0 0 2 0 0, .any, .any, .any, .ro 1 ((cors p s).map enI), I (s_ : Int), .any, .any, .any, .any, .any, .any, .any, .any, .any, .any, .any, .any, .any, .any, .any, .any, .any, .any, .any, .any, .any, .any, .any, .any, .any, .any, .any, .any, .any, .any, .any, .any, .any, .any, .any, .any, .any, .any, .any, .any, .any, .any, .any, .any]) (fun s_ => [some ⟨141, 2, 0, true, [p.en]⟩]) (fun s_ => (cors p s).length - s_) (fun s_ => s_ ≤ (cors p s).length ∧ ((cors p s).take s_).all (fun y => !frK p s tk y) = true) 0 ⟨Nat.zero_le _, rfl⟩ ?_ (by first | rfl | (rfl)) ?_
 (focus (exact wkI))
 rintro i hJ
 try dsimp only at hJ
 try dsimp only
 by_cases hlt : i < (cors p s).length
 case' pos =>
  have a2 := True.intro
  obtain ⟨k, hx⟩ := getD_some (l := (cors p s)) (i := i) hlt
  have hg := map_get (f := enI) hx
  have ht := lt_true (f := enI) hlt
  have hn := next_ix hlt (by omega)
  have hx0 := hJ.2
  have hk3 := (cors_mem (List.mem_of_getElem? hx)).1
  have hcll : Clo (.agg (labB p s k).en) := Clo.agg (TBox.clo_en _)
  have hclt : Clo (.tup [.agg (labB p s k).en, B (lbOk p s k)]) := Clo.tup (clo_cons hcll (clo_cons (clo_c _) clo_nil))
 case' neg =>
  have q1 := True.intro
  have ht := lt_false (f := enI) hlt
  have ei : i = (cors p s).length := by omega
  have hres : frC p s tk = -1 := frC_no (by rw [← ei]; exact hJ.2))
  | (
 have _ := a2
 clear a2
 refine AW.loopD hE (fun s_ : Nat => [.any, S s, .ro 4 (tk.map TBox.en), .ref 0 0 2 0 0, .any, .any, .any, .ro 1 ((cors p s).map enI), I (i : Int), .ref 1 1 4 0 0, .any, B ((tk.take s_).all (noOv (labB p s k))), I (s_ : Int), .any, .any, .any, .any, .any, .any, .any, .any, .any, .any, .any, .any, .any, .any, .any, .any, .any, .any, .any, .any, .any, .any, .any, .any, .any, .any, .any, .any, .any, .any, .any, .any, .any, .any, .any, .any, .any, .any, .any, .any]) (fun s_ => [some ⟨141, 2, 0, true, [p.en]⟩, some ⟨143, 4, 1, true, [(labB p s k).en]⟩]) (fun s_ => tk.length - s_) (fun s_ => s_ ≤ tk.length) 0 (Nat.zero_le _) ?_ (by first | rfl | (rfl)) ?_
 (focus (exact wkI))
 rintro j hJ2
 try dsimp only at hJ2
 try dsimp only
 by_cases hlt : j < tk.length
 case' pos =>
  have p2 := True.intro
  obtain ⟨t, hy⟩ := getD_some (l := tk) (i := j) hlt
  have hgy := map_get (f := TBox.en) hy
  have hty := lt_true (f := TBox.en) hlt
  have hny := next_ix hlt (by omega)
  have hclt2 : Clo (.agg t.en) := Clo.agg t.clo_en
  rcases Bool.eq_false_or_eq_true ((tk.take j).all (noOv (labB p s k))) with hb2 | hb2
  case' inl => have hat : (tk.take (j + 1)).all (noOv (labB p s k)) = !ovB (labB p s k) t := (all_take_y hy hb2).trans rfl
  case' inr => have hat : (tk.take (j + 1)).all (noOv (labB p s k)) = false := all_take_n hy hb2
 case' neg =>
  have q2 := True.intro
  have hty := lt_false (f := TBox.en) hlt
  obtain rfl : j = tk.length := by omega
  rw [List.take_length]
  rcases Bool.eq_false_or_eq_true (tk.all (noOv (labB p s k))) with hfr | hfr
  case' inl => have hres := frC_at hx hfr hx0
  case' inr => have hjn := all_take_y' (p := fun y => !frK p s tk y) hx hx0 (by unfold frK freeB; rw [hfr]; rfl))) <;> (try dsimp only))
 all_goals first
  | (have _ := p2; refine ⟨j + 1, _, hlt, by omega, ?_, rfl, ?_, ?_⟩; (focus (exact wkH)); (focus (exact fitsA)); (focus (exact fitsM_cons (clo_one p.clo_en) (fitsM_cons (clo_one (TBox.clo_en _)) (FitsM.nil _)))))
  | (have _ := q2; refine ⟨i + 1, _, ⟨(by assumption), hjn⟩, by omega, ?_, rfl, ?_, ?_⟩; (focus (exact wkH)); (focus (exact fitsA)); (focus (exact fitsM_cons (clo_one p.clo_en) (FitsM.nil _))))
  | (have _ := q2; exact Fin.one rfl (RV.tmp (by rfl)) (clo_c _) ⟨by rw [hres], rfl⟩)
  | (have _ := q1; exact Fin.one rfl (RV.tmp (by rfl)) (clo_c _) ⟨by rw [hres], rfl⟩)

theorem mid_s (l : List TPoint) (hl : l.length ≤ 1048576) (hr : isRing l = true) : VCalls Tryz.prog 272 [.ro 2 (l.map TPoint.en)] (fun r M => r = .tup [.agg (rmid l).en, B true] ∧ M = []) := by
 refine VB Tryz.func272 45 (fun E hE => ?_)
 have hclo : Clo (.ro 2 (l.map TPoint.en)) := clo_list TPoint.clo_en
 have hrl := isRing_len hr
 have hnz : ((l.map TPoint.en).length : Int) ≠ 0 := by rw [List.length_map]; omega
 repeat' ((first
  | (refine iAL ?_; first | refine AL.any ?_ | refine AL.any (h := POp.k Tryz.func172 (hc := isRing_s l hl)) ?_ | refine AL.nil ?_)
  | ((with_reducible show DL ..); first | refine DL.any ?_ | refine DL.nil ?_)
  | (refine iAW ?_; first | (refine AW.c0 ?_; constructor) | refine AW.dr (id := 7) 7 ?_ | refine AW.dr (id := 8) 7 ?_ | refine AW.dr (id := 9) 10 ?_ | refine AW.cT ?_ | refine AW.cF ?_)
  | (
 refine AW.loopD hE (fun i : Nat => [.ro 2 (l.map TPoint.en), .any, .ref 0 0 2 0 0, .any, .ref 1 0 2 0 0, I (i : Int), .any, .any, .any, .any, .any, .any, .any, .any, .any, .any, .any, .any, .any, .any, .any, .any, .any, .any, .any, .any, .any, .any, .any, .any, .any, .any, .any, .any, .any, .any, .any, .any, .any, .any, .any, .any, .any, .any, .any, .any]) (fun i => [some ⟨141, 2, 0, true, [[I 0, I 0]]⟩, some ⟨141, 2, 0, true, [[I (smX l i), I (smY l i)]]⟩]) (fun i => l.length - i) (fun i => i ≤ l.length) 0 (by simp) ?_ (by first | rfl | (simp [fil_zero]; done)) ?_
 (focus (exact wkI))
 intro i hi
 by_cases hlt : i < l.length
 case' pos =>
  have hP := True.intro
  obtain ⟨x, hx⟩ : ∃ x, l[i]? = some x := ⟨_, List.getElem?_eq_getElem hlt⟩
  have hg := map_get (f := TPoint.en) hx
  have ht := lt_true (f := TPoint.en) hlt
  have hn := next_ix hlt (by omega)
  have hcle : Clo (.agg x.en) := Clo.agg x.clo_en
  have hX := smX_succ hx
  have hY := smY_succ hx
 case' neg =>
  have hQ := True.intro
  have ht := lt_false (f := TPoint.en) hlt
  have e : i = l.length := by omega
  subst e
  try rw [List.take_length])) <;> (try dsimp only))
 all_goals first
  | (have _ := hP; (refine ⟨i + 1, _, hlt, by omega, ?_, by rw [hX, hY] <;> rfl, ?_, ?_⟩; (focus (exact wkH)); (focus (exact fitsA)); (focus (exact fitsM_cons (clo_rows_b rfl) (fitsM_cons (clo_rows_b rfl) (FitsM.nil _))))))
  | (have _ := hQ; exact Fin.two rfl (RV.cell (QOp.quietA TT_ok (by rfl))) (RV.tmp (by rfl)) (clo_of (by rfl)) ⟨by (simp only [rmid, TPoint.en, List.length_map]) <;> rfl, rfl⟩)

theorem mid_i (l : List TPoint) (hl : l.length ≤ 1048576) (hr : isRing l = true) : VCalls Tryz.prog 281 [.ro 2 (l.map TPoint.en)] (fun r M => r = .tup [.agg (rmid l).en, B true] ∧ M = []) := by
 refine VB Tryz.func281 41 (fun E hE => ?_)
 have hclo : Clo (.ro 2 (l.map TPoint.en)) := clo_list TPoint.clo_en
 have hrl := isRing_len hr
 have hnz : ((l.map TPoint.en).length : Int) ≠ 0 := by rw [List.length_map]; omega
 repeat' ((first
  | (refine iAL ?_; first | refine AL.any ?_ | refine AL.any (h := POp.k Tryz.func182 (hc := isRing_i l hl)) ?_ | refine AL.nil ?_)
  | ((with_reducible show DL ..); first | refine DL.any ?_ | refine DL.nil ?_)
  | (refine iAW ?_; first | (refine AW.c0 ?_; constructor) | refine AW.dr (id := 10) 10 ?_ | refine AW.cT ?_ | refine AW.cF ?_)
  | (
 refine AW.loopD hE (fun i : Nat => [.ro 2 (l.map TPoint.en), .any, .ref 0 0 2 0 0, .any, .ref 1 0 2 0 0, .any, .any, .any, .any, .any, .any, .any, .ro 2 (l.map TPoint.en), I ((l.map TPoint.en).length : Int), I (i : Int), .any, .any, .any, .any, .any, .any, .any, .any, .any, .any, .any, .any, .any, .any, .any, .any, .any, .any, .any, .any, .any, .any, .any, .any, .any, .any, .any]) (fun i => [some ⟨141, 2, 0, true, [[I 0, I 0]]⟩, some ⟨141, 2, 0, true, [[I (smX l i), I (smY l i)]]⟩]) (fun i => l.length - i) (fun i => i ≤ l.length) 0 (by simp) ?_ (by first | rfl | (simp [fil_zero]; done)) ?_
 (focus (exact wkI))
 intro i hi
 by_cases hlt : i < l.length
 case' pos =>
  have hP := True.intro
  obtain ⟨x, hx⟩ : ∃ x, l[i]? = some x := ⟨_, List.getElem?_eq_getElem hlt⟩
  have hg := map_get (f := TPoint.en) hx
  have ht := lt_true (f := TPoint.en) hlt
  have hn := next_ix hlt (by omega)
  have hcle : Clo (.agg x.en) := Clo.agg x.clo_en
  have hX := smX_succ hx
  have hY := smY_succ hx
 case' neg =>
  have hQ := True.intro
  have ht := lt_false (f := TPoint.en) hlt
  have e : i = l.length := by omega
  subst e
  try rw [List.take_length])) <;> (try dsimp only))
 all_goals first
  | (have _ := hP; (refine ⟨i + 1, _, hlt, by omega, ?_, by rw [hX, hY] <;> rfl, ?_, ?_⟩; (focus (exact wkH)); (focus (exact fitsA)); (focus (exact fitsM_cons (clo_rows_b rfl) (fitsM_cons (clo_rows_b rfl) (FitsM.nil _))))))
  | (have _ := hQ; exact Fin.two rfl (RV.cell (QOp.quietA TT_ok (by rfl))) (RV.tmp (by rfl)) (clo_of (by rfl)) ⟨by (simp only [rmid, TPoint.en, List.length_map]) <;> rfl, rfl⟩)

theorem anc_s (l : List TFeature) (hS : isSource l = true) (hg0 : ∀ x ∈ l, x.gd) : VCalls Tryz.prog 204 [.ro 5 (l.map TFeature.en)] (fun r M => r = .ro 4 ((ancs l).map TPlace.en) ∧ M = []) := by
 refine VB Tryz.func204 51 (fun E hE => ?_)
 have hclo : Clo (.ro 5 (l.map TFeature.en)) := clo_list TFeature.clo_en
 have hsl := src_len hS
 repeat' ((first
  | (refine iAL ?_; first | refine AL.any ?_ | refine AL.any (h := POp.k Tryz.func272 (hc := mid_s x.points hlx hr)) ?_ | refine AL.F ?_ | refine AL.T ?_ | refine AL.T (h := POp.k Tryz.func78 (hc := isSrcT_s l (by omega) hg0 hS)) ?_ | refine AL.nil ?_)
  | (refine iAW ?_; first | (refine AW.freezeRet (t := 2) (id := 0) rfl rfl rfl rfl (clo_rows TPlace.clo_en) ?_; (try simp only [List.take_length]); try dsimp only [dput, List.set, cond_true, cond_false, Nat.zero_add, Nat.add_zero, Nat.reduceAdd, splice, List.take, List.drop, List.length, List.nil_append, List.cons_append, List.append, TPoint.en, TSegment.en, TBox.en, TFeature.en, TMeet.en, TPlace.en, TCover.en, TLabel.en, TPiece.en, TLevel.en, TChart.en, TReason.en, TEdit.en, TEntry.en, TEdition.en, TListing.en, TAtlas.en, TEvent.en, TWindow.en]) | (refine AW.c0 ?_; constructor) | refine AW.cT ?_ | refine AW.cF ?_)
  | (
 refine AW.loopD hE (fun i : Nat => [.ro 5 (l.map TFeature.en), .any, .any, .own 0 (ancTo l i).length, I (i : Int), .any, .any, .any, .any, .any, .any, .any, .any, .any, .any, .any, .any, .any, .any, .any, .any, .any, .any, .any, .any, .any, .any, .any, .any, .any, .any, .any, .any, .any, .any, .any, .any, .any, .any, .any, .any, .any, .any, .any, .any, .any, .any, .any, .any, .any, .any, .any]) (fun i => [some ⟨187, 4, (ancTo l i).length, false, (ancTo l i).map TPlace.en⟩]) (fun i => l.length - i) (fun i => i ≤ l.length) 0 (by simp) ?_ (by first | rfl | (simp [fil_zero]; done)) ?_
 (focus (exact wkI))
 intro i hi
 by_cases hlt : i < l.length
 case' pos =>
  have hP := True.intro
  obtain ⟨x, hx⟩ : ∃ x, l[i]? = some x := ⟨_, List.getElem?_eq_getElem hlt⟩
  have hg := map_get (f := TFeature.en) hx
  have ht := lt_true (f := TFeature.en) hlt
  have hn := next_ix hlt (by omega)
  have hgx := hg0 x (List.mem_of_getElem? hx)
  have hfx := src_feat hS hx
  have hcle : Clo (.agg x.en) := Clo.agg x.clo_en
  have hclP : Clo (.ro 2 (x.points.map TPoint.en)) := clo_list TPoint.clo_en
  have hln := ancTo_len l i
  have hlx := hgx.1
  obtain ⟨hm0, hmg, _⟩ := mid_get hfx hlx
  rcases Bool.eq_false_or_eq_true (noName x.name) with hk | hk
  case' inl => obtain ⟨hm, hm2⟩ := ancTo_n hx hk
  case' inr =>
   obtain ⟨hm, hm2⟩ := ancTo_y hx hk
   rcases an_cases hfx with ⟨k1, k2, k3, ka, kg⟩ | ⟨k1, k2, k3, ka⟩ | ⟨k1, k2, k3, ka, hr⟩
  all_goals try (unfold ancOf at hm; rw [ka] at hm; dsimp only [TPlace.en, TPoint.en, List.append_eq, List.cons_append, List.nil_append] at hm)
 case' neg =>
  have hQ := True.intro
  have ht := lt_false (f := TFeature.en) hlt
  have e : i = l.length := by omega
  subst e
  try rw [List.take_length]
  rw [ancTo_all])) <;> (try dsimp only))
 all_goals first
  | (have _ := hP; (refine ⟨i + 1, _, hlt, by omega, ?_, by rw [hm, hm2] <;> rfl, ?_, ?_⟩; (focus (exact wkH)); (focus (exact fitsA)); (focus (exact fits_row (clo_rows TPlace.clo_en)))))
  | (have _ := hQ; exact Fin.one rfl (RV.tmp (by rfl)) (clo_list TPlace.clo_en) ⟨rfl, rfl⟩)

theorem anc_i (l : List TFeature) (hS : isSource l = true) (hg0 : ∀ x ∈ l, x.gd) : VCalls Tryz.prog 212 [.ro 5 (l.map TFeature.en)] (fun r M => r = .ro 4 ((ancs l).map TPlace.en) ∧ M = []) := by
 refine VB Tryz.func212 60 (fun E hE => ?_)
 have hclo : Clo (.ro 5 (l.map TFeature.en)) := clo_list TFeature.clo_en
 have hsl := src_len hS
 repeat' ((first
  | (refine iAL ?_; first | refine AL.any ?_ | refine AL.any (h := POp.k Tryz.func80 (hc := isSrcT_i l (by omega) hg0 hS)) ?_ | refine AL.any (h := POp.k Tryz.func281 (hc := mid_i x.points hlx hr)) ?_ | refine AL.nil ?_)
  | (refine iAW ?_; first | (refine AW.freezeRet (t := 2) (id := 0) rfl rfl rfl rfl (clo_rows TPlace.clo_en) ?_; (try simp only [List.take_length]); try dsimp only [dput, List.set, cond_true, cond_false, Nat.zero_add, Nat.add_zero, Nat.reduceAdd, splice, List.take, List.drop, List.length, List.nil_append, List.cons_append, List.append, TPoint.en, TSegment.en, TBox.en, TFeature.en, TMeet.en, TPlace.en, TCover.en, TLabel.en, TPiece.en, TLevel.en, TChart.en, TReason.en, TEdit.en, TEntry.en, TEdition.en, TListing.en, TAtlas.en, TEvent.en, TWindow.en]) | (refine AW.c0 ?_; constructor) | refine AW.cT ?_ | refine AW.cF ?_)
  | (
 refine AW.loopD hE (fun i : Nat => [.any, .any, .any, .own 0 (ancTo l i).length, .any, .any, .any, .any, .any, .any, .any, .any, .ro 5 (l.map TFeature.en), I ((l.map TFeature.en).length : Int), I (i : Int), .any, .any, .any, .any, .any, .any, .any, .any, .any, .any, .any, .any, .any, .any, .any, .any, .any, .any, .any, .any, .any, .any, .any, .any, .any, .any, .any, .any, .any, .any, .any, .any, .any, .any, .any, .any, .any, .any, .any, .any, .any, .any, .any, .any, .any, .any]) (fun i => [some ⟨187, 4, (ancTo l i).length, false, (ancTo l i).map TPlace.en⟩]) (fun i => l.length - i) (fun i => i ≤ l.length) 0 (by simp) ?_ (by first | rfl | (simp [fil_zero]; done)) ?_
 (focus (exact wkI))
 intro i hi
 by_cases hlt : i < l.length
 case' pos =>
  have hP := True.intro
  obtain ⟨x, hx⟩ : ∃ x, l[i]? = some x := ⟨_, List.getElem?_eq_getElem hlt⟩
  have hg := map_get (f := TFeature.en) hx
  have ht := lt_true (f := TFeature.en) hlt
  have hn := next_ix hlt (by omega)
  have hgx := hg0 x (List.mem_of_getElem? hx)
  have hfx := src_feat hS hx
  have hcle : Clo (.agg x.en) := Clo.agg x.clo_en
  have hclP : Clo (.ro 2 (x.points.map TPoint.en)) := clo_list TPoint.clo_en
  have hln := ancTo_len l i
  have hlx := hgx.1
  obtain ⟨hm0, hmg, _⟩ := mid_get hfx hlx
  rcases Bool.eq_false_or_eq_true (noName x.name) with hk | hk
  case' inl => obtain ⟨hm, hm2⟩ := ancTo_n hx hk
  case' inr =>
   obtain ⟨hm, hm2⟩ := ancTo_y hx hk
   rcases an_cases hfx with ⟨k1, k2, k3, ka, kg⟩ | ⟨k1, k2, k3, ka⟩ | ⟨k1, k2, k3, ka, hr⟩
  all_goals try (unfold ancOf at hm; rw [ka] at hm; dsimp only [TPlace.en, TPoint.en, List.append_eq, List.cons_append, List.nil_append] at hm)
 case' neg =>
  have hQ := True.intro
  have ht := lt_false (f := TFeature.en) hlt
  have e : i = l.length := by omega
  subst e
  try rw [List.take_length]
  rw [ancTo_all])) <;> (try dsimp only))
 all_goals first
  | (have _ := hP; (refine ⟨i + 1, _, hlt, by omega, ?_, by rw [hm, hm2] <;> rfl, ?_, ?_⟩; (focus (exact wkH)); (focus (exact fitsA)); (focus (exact fits_row (clo_rows TPlace.clo_en)))))
  | (have _ := hQ; exact Fin.one rfl (RV.tmp (by rfl)) (clo_list TPlace.clo_en) ⟨rfl, rfl⟩)

end Go.Proofs.YtpffahmmklpifaaGreat.Abs

/- The walk of PlaceNames (program). -/
namespace Go.Proofs.YtpffahmmklpifaaGreat.Abs
open Go.Proofs Go.RowKit
set_option linter.unusedVariables false
set_option linter.unusedSimpArgs false
set_option maxRecDepth 100000
set_option maxHeartbeats 2000000
attribute [local irreducible] OpA AL AW DL DLM DLR DLS QOp POp VCalls VCallsI
attribute [local irreducible] frC labB lbOk pnTo fnd srtA ancs
theorem pln_i (l : List TFeature) (hS : isSource l = true) (hg0 : ∀ x ∈ l, x.gd) : VCalls Tryz.prog 143 [.ro 5 (l.map TFeature.en)] (fun r M => r = .own 0 0 ∧ M = [some ⟨174, 6, 0, false, (plN l).map TLabel.en⟩]) := by
 refine VB Tryz.func143 59 (fun E hE => ?_)
 have hclo : Clo (.ro 5 (l.map TFeature.en)) := clo_list TFeature.clo_en
 have hsl := src_len hS
 have hl1 : l.length ≤ 1048576 := by omega
 have hok := ancs_ok hS hg0
 have hSl : (srtA (ancs l)).length ≤ 16 := by rw [srtA_len]; exact hok.len
 have hclA : Clo (.ro 4 ((ancs l).map TPlace.en)) := clo_list TPlace.clo_en
 have hclS : Clo (.ro 4 ((srtA (ancs l)).map TPlace.en)) := clo_list TPlace.clo_en
 repeat' ((first
  | (refine iAL ?_; first | refine AL.any ?_ | refine AL.any (h := POp.k Tryz.func149 (hc := find_i l x.id hl1)) ?_ | refine AL.any (h := POp.k Tryz.func211 (hc := frAb' (ancs l) hok)) ?_ | refine AL.any (h := POp.k Tryz.func212 (hc := anc_i l hS hg0)) ?_ | refine AL.any (h := POp.kv Tryz.func213 (hc := fc_i x.at_ f.name hisp hisn ((pnTo l (srtA (ancs l)) i).map (·.box)) hTK)) ?_ | refine AL.any (h := POp.k Tryz.func214 (hc := lab_i x.at_ f.name (frC x.at_ f.name ((pnTo l (srtA (ancs l)) i).map (·.box))) hisp hisn hk3)) ?_ | refine AL.any (h := POp.H [0] Tryz.func215 (hc := sortL (pnA l) (pnA_nodup hS hg0) (by have := pnA_len hS hg0; omega))) ?_ | refine AL.nil ?_)
  | (refine iAW ?_; first | (refine AW.c0 ?_; constructor) | refine AW.cT ?_ | refine AW.cF ?_)
  | (
 refine AW.loopD hE (fun i : Nat => [.ro 5 (l.map TFeature.en), .any, .any, .own 0 (pnTo l (srtA (ancs l)) i).length, .own 1 (pnTo l (srtA (ancs l)) i).length, .any, .any, .any, .any, .any, .any, .any, .any, .any, .any, .ro 4 ((srtA (ancs l)).map TPlace.en), I (((srtA (ancs l)).map TPlace.en).length : Int), I (i : Int), .any, .any, .any, .any, .any, .any, .any, .any, .any, .any, .any, .any, .any, .any, .any, .any, .any, .any, .any, .any, .any, .any, .any, .any, .any, .any, .any, .any, .any, .any, .any, .any, .any, .any, .any, .any, .any, .any, .any, .any, .any, .any]) (fun i => [some ⟨174, 6, (pnTo l (srtA (ancs l)) i).length, false, (pnTo l (srtA (ancs l)) i).map TLabel.en⟩, some ⟨143, 4, (pnTo l (srtA (ancs l)) i).length, false, ((pnTo l (srtA (ancs l)) i).map (·.box)).map TBox.en⟩]) (fun i => (srtA (ancs l)).length - i) (fun i => i ≤ (srtA (ancs l)).length) 0 (by simp) ?_ (by first | rfl | ((simp [pnTo]))) ?_
 (focus ((refine wkj ?_; repeat' with_reducible constructor) <;> first | rfl | (first | rfl | (simp [pnTo]))))
 intro i hi
 by_cases hlt : i < (srtA (ancs l)).length
 case' pos =>
  have hP := True.intro
  obtain ⟨x, hx⟩ : ∃ x, (srtA (ancs l))[i]? = some x := ⟨_, List.getElem?_eq_getElem hlt⟩
  have hg := map_get (f := TPlace.en) hx
  have ht := lt_true (f := TPlace.en) hlt
  have hn := next_ix hlt (by omega)
  have hcle : Clo (.agg x.en) := Clo.agg x.clo_en
  obtain ⟨j, f, hj, hfd, hnm, hisn, hisp⟩ := anc_feat hS hg0 (List.mem_of_getElem? hx)
  have hgj : (l.map TFeature.en)[(fnd l x.id).toNat]? = some f.en := by rw [hfd, Int.toNat_natCast, List.getElem?_map, hj]; rfl
  have h0j : 0 ≤ fnd l x.id := by omega
  have hpl := pnTo_len l (srtA (ancs l)) i
  have hTK : ((pnTo l (srtA (ancs l)) i).map (·.box)).length ≤ 1048576 := by rw [List.length_map]; omega
  have hclT : Clo (.ro 4 (((pnTo l (srtA (ancs l)) i).map (·.box)).map TBox.en)) := clo_list TBox.clo_en
  have hcrT : ∀ r ∈ ((pnTo l (srtA (ancs l)) i).map (·.box)).map TBox.en, ∀ y ∈ r, Clo y := clo_rows TBox.clo_en
  have hclB : Clo (.agg (labB x.at_ f.name (frC x.at_ f.name ((pnTo l (srtA (ancs l)) i).map (·.box)))).en) := Clo.agg (TBox.clo_en _)
  have hclU : Clo (.tup [.agg (labB x.at_ f.name (frC x.at_ f.name ((pnTo l (srtA (ancs l)) i).map (·.box)))).en, B (lbOk x.at_ f.name (frC x.at_ f.name ((pnTo l (srtA (ancs l)) i).map (·.box))))]) := Clo.tup (clo_cons hclB (clo_cons (clo_c _) clo_nil))
  rcases Bool.eq_false_or_eq_true (decide ((frC x.at_ f.name ((pnTo l (srtA (ancs l)) i).map (·.box))) < 0)) with hk | hk
  case' inl =>
   have hkg : decide ((frC x.at_ f.name ((pnTo l (srtA (ancs l)) i).map (·.box))) ≥ 0) = false := by simp at hk ⊢; omega
   have hm := pnTo_n hx (by rw [pnC, hnm]; exact hk)
  case' inr =>
   have hkg : decide ((frC x.at_ f.name ((pnTo l (srtA (ancs l)) i).map (·.box))) ≥ 0) = true := by simp at hk ⊢; omega
   have hk3 : inr (frC x.at_ f.name ((pnTo l (srtA (ancs l)) i).map (·.box))) 0 3 = true := by rcases frC_ge (p := x.at_) (s := f.name) (tk := ((pnTo l (srtA (ancs l)) i).map (·.box))) with he | he; (rw [he] at hkg; cases hkg); exact he.1
   have hm0 := pnTo_y hx (by rw [pnC, hnm]; exact hk)
   have hm1 : (pnTo l (srtA (ancs l)) (i + 1)).map TLabel.en = (pnTo l (srtA (ancs l)) i).map TLabel.en ++ [[I x.id, S f.name, I (labB x.at_ f.name (frC x.at_ f.name ((pnTo l (srtA (ancs l)) i).map (·.box)))).low.x, I (labB x.at_ f.name (frC x.at_ f.name ((pnTo l (srtA (ancs l)) i).map (·.box)))).low.y, I (labB x.at_ f.name (frC x.at_ f.name ((pnTo l (srtA (ancs l)) i).map (·.box)))).high.x, I (labB x.at_ f.name (frC x.at_ f.name ((pnTo l (srtA (ancs l)) i).map (·.box)))).high.y]] := by rw [hm0, List.map_append, pnL, hnm]; rfl
   have hm2 : ((pnTo l (srtA (ancs l)) (i + 1)).map (·.box)).map TBox.en = ((pnTo l (srtA (ancs l)) i).map (·.box)).map TBox.en ++ [[I (labB x.at_ f.name (frC x.at_ f.name ((pnTo l (srtA (ancs l)) i).map (·.box)))).low.x, I (labB x.at_ f.name (frC x.at_ f.name ((pnTo l (srtA (ancs l)) i).map (·.box)))).low.y, I (labB x.at_ f.name (frC x.at_ f.name ((pnTo l (srtA (ancs l)) i).map (·.box)))).high.x, I (labB x.at_ f.name (frC x.at_ f.name ((pnTo l (srtA (ancs l)) i).map (·.box)))).high.y]] := by rw [hm0, List.map_append, List.map_append, pnL, hnm]; rfl
   have hm3 : (pnTo l (srtA (ancs l)) (i + 1)).length = (pnTo l (srtA (ancs l)) i).length + 1 := by rw [hm0]; simp
 case' neg =>
  have hQ := True.intro
  have ht := lt_false (f := TPlace.en) hlt
  have e : i = (srtA (ancs l)).length := by omega
  subst e
  try rw [List.take_length]
  rw [pnTo_all])) <;> (try dsimp only))
 all_goals first
  | (have _ := hP; (refine ⟨i + 1, _, hlt, by omega, ?_, by first | (rw [hm1, hm2, hm3] <;> rfl) | (rw [hm] <;> rfl), ?_, ?_⟩; (focus ((refine wkj ?_; repeat' with_reducible constructor) <;> (first | rfl | (rw [hn]; done) | (rw [hm3]; done) | (rw [hm]; done)))); (focus (exact fitsA)); (focus (exact fitsM_cons (clo_rows TLabel.clo_en) (fitsM_cons (clo_rows TBox.clo_en) (FitsM.nil _))))))
  | (have _ := hQ; exact Fin.r1 [0] rfl (RV.tmp (by rfl)) ⟨rfl, rfl⟩)

end Go.Proofs.YtpffahmmklpifaaGreat.Abs

/- The walk of PlaceNames (reference). -/
namespace Go.Proofs.YtpffahmmklpifaaGreat.Abs
open Go.Proofs Go.RowKit
set_option linter.unusedVariables false
set_option linter.unusedSimpArgs false
set_option maxRecDepth 100000
set_option maxHeartbeats 2000000
attribute [local irreducible] OpA AL AW DL DLM DLR DLS QOp POp VCalls VCallsI
attribute [local irreducible] frC labB lbOk pnTo fnd srtA ancs slTo
theorem pln_s (l : List TFeature) (hS : isSource l = true) (hg0 : ∀ x ∈ l, x.gd) : VCalls Tryz.prog 137 [.ro 5 (l.map TFeature.en)] (fun r M => r = .ro 6 ((plN l).map TLabel.en) ∧ M = []) := by
 refine VB Tryz.func137 98 (fun E hE => ?_)
 have a1 := True.intro
 have hclo : Clo (.ro 5 (l.map TFeature.en)) := clo_list TFeature.clo_en
 have hsl := src_len hS
 have hl1 : l.length ≤ 1048576 := by omega
 have hok := ancs_ok hS hg0
 have hSl : (srtA (ancs l)).length ≤ 16 := by rw [srtA_len]; exact hok.len
 have hclA : Clo (.ro 4 ((ancs l).map TPlace.en)) := clo_list TPlace.clo_en
 have hclS : Clo (.ro 4 ((srtA (ancs l)).map TPlace.en)) := clo_list TPlace.clo_en
 have hclK : Clo (.ro 4 ((kept (srtA (ancs l)) 0).map TPlace.en)) := clo_list TPlace.clo_en
 repeat' ((first
  | (refine iAL ?_; first | refine AL.any ?_ | refine AL.any (h := POp.k Tryz.func146 (hc := find_s l x.id hl1)) ?_ | refine AL.any (h := POp.k Tryz.func203 (hc := kept_s (ancs l) 0 hok rfl)) ?_ | refine AL.any (h := POp.k Tryz.func204 (hc := anc_s l hS hg0)) ?_ | refine AL.any (h := POp.kv Tryz.func205 (hc := fc_s x.at_ f.name hisp hisn ((pnTo l (srtA (ancs l)) i).map (·.box)) hTK)) ?_ | refine AL.any (h := POp.k Tryz.func206 (hc := lab_s x.at_ f.name (frC x.at_ f.name ((pnTo l (srtA (ancs l)) i).map (·.box))) hisp hisn hk3)) ?_ | refine AL.F ?_ | refine AL.T ?_ | refine AL.nil ?_)
  | ((with_reducible show DL ..); first | refine DL.any ?_ | refine DL.F ?_ | refine DL.T ?_ | refine DL.nil ?_)
  | ((with_reducible show DLR ..); first | refine DLR.any ?_ | refine DLR.row rfl (fun Y => RowRun.empty (by rfl) (by rfl) (by first | exact rwk22 | exact rwk23 | exact rwk24 | exact rwk31 | exact rwk32 | exact rwk33 | exact rwk45 | exact rwk63 | exact rwk79 | exact rwk98 | exact rwk183 | exact rwk220)) rfl rfl ?_ | refine DLR.append rfl (by rfl) (by first | exact rwk22 | exact rwk23 | exact rwk24 | exact rwk31 | exact rwk32 | exact rwk33 | exact rwk45 | exact rwk63 | exact rwk79 | exact rwk98 | exact rwk183 | exact rwk220) (by rfl) rfl rfl rfl rfl rfl rfl (by rfl) (by first | (simp <;> omega) | omega) (by first | (simp [maxLen] <;> omega) | (simp_all [maxLen] <;> omega)) ?_ | refine DLR.nil ?_)
  | (refine iAW ?_; first | (refine AW.freeze /-Ret-/ (t := 3) (id := 0) rfl rfl rfl rfl clo_rows_nil ?_; try dsimp only [dput, List.set, cond_true, cond_false, Nat.zero_add, Nat.add_zero, Nat.reduceAdd, splice, List.take, List.drop, List.length, List.nil_append, List.cons_append, List.append, TPoint.en, TSegment.en, TBox.en, TFeature.en, TMeet.en, TPlace.en, TCover.en, TLabel.en, TPiece.en, TLevel.en, TChart.en, TReason.en, TEdit.en, TEntry.en, TEdition.en, TListing.en, TAtlas.en, TEvent.en, TWindow.en]) | (refine AW.freeze /-Ret-/ (t := 3) (id := 4) rfl rfl rfl rfl hcr ?_; try dsimp only [dput, List.set, cond_true, cond_false, Nat.zero_add, Nat.add_zero, Nat.reduceAdd, splice, List.take, List.drop, List.length, List.nil_append, List.cons_append, List.append, TPoint.en, TSegment.en, TBox.en, TFeature.en, TMeet.en, TPlace.en, TCover.en, TLabel.en, TPiece.en, TLevel.en, TChart.en, TReason.en, TEdit.en, TEntry.en, TEdition.en, TListing.en, TAtlas.en, TEvent.en, TWindow.en]) | (refine AW.c0 ?_; constructor) | refine AW.dr (id := 13) 14 ?_ | refine AW.drawnR (id := 15) 18 1 [some 0, none, none, none, some 0, none, none, none, none, none, none, none, none, none, some 0, none, none, none] [some Rsv] rfl (by kernel_rfl) (by kernel_rfl) (by kernel_rfl) (by rfl) ?_ | refine AW.cT ?_ | refine AW.cF ?_)
  | ((with_reducible show DLR ..); first | refine DLR.any (h := fun Y => POp.quiet (QOp.cut_h (by rfl) slk63 (by rfl) (by rfl) (by first | decide | omega) (by first | assumption | omega) (by assumption))) ?_ | refine DLR.any (h := fun Y => POp.quiet (QOp.cut_l (by rfl) slk63 (by rfl) (by rfl) (by first | decide | omega) (by first | assumption | omega) (by assumption))) ?_ | refine DLR.any (h := fun Y => POp.lit0 (RowRun.literal (by rfl) rwk63 (by rfl) (by rfl) (by rfl) (by rfl) (by rfl) (by rfl)) (clo_rows_b rfl)) ?_)
  | (
 have _ := a1
 clear a1
 refine AW.loopD hE (fun s_ : Nat => (.ro 5 (l.map TFeature.en) :: .any :: .any :: .ro 6 ((slTo l (srtA (ancs l)) s_).map TLabel.en) :: .ro 4 ((srtA (ancs l)).map TPlace.en) :: .own 1 (pnTo l (srtA (ancs l)) s_).length :: I (s_ : Int) :: .any :: .any :: .any :: .any :: .any :: .any :: .any :: .any :: .any :: .any :: .any :: .any :: .any :: .any :: .any :: .any :: .any :: .any :: .any :: .any :: .any :: .any :: .any :: .any :: .any :: .any :: .any :: .any :: .any :: .any :: .any :: .any :: .any :: .any :: .any :: .any :: .any :: .any :: .any :: .any :: .any :: .any :: .any :: .any :: .any :: .any :: .any :: .any :: .any :: .any :: .any :: .any :: .any :: .any :: .any :: .any :: .any :: .any :: .any :: .any :: .any :: .any :: .any :: .any :: .any :: .any :: .any :: .any :: .any :: .any :: .any :: .any :: .any :: .any :: .any :: .any :: .any :: .any :: .any :: .any :: .any :: .any :: .any :: .any :: .any :: .any :: .any :: .any :: .any :: .any :: .any :: .any :: [])) (fun s_ => [none, some ⟨143, 4, (pnTo l (srtA (ancs l)) s_).length, false, ((pnTo l (srtA (ancs l)) s_).map (·.box)).map TBox.en⟩]) (fun s_ => (srtA (ancs l)).length - s_) (fun s_ => s_ ≤ (srtA (ancs l)).length) 0 (Nat.zero_le _) ?_ (by first | rfl | ((simp [pnTo]))) ?_
 (focus ((refine wkj ?_; repeat' with_reducible constructor) <;> first | rfl | (simp [pnTo, slTo, srtL]; done) | (rw [kept0])))
 rintro i hJ
 try dsimp only at hJ
 try dsimp only
 by_cases hlt : i < (srtA (ancs l)).length
 case' pos =>
  have a2 := True.intro
  obtain ⟨x, hx⟩ := getD_some (l := (srtA (ancs l))) (i := i) hlt
  have hg := map_get (f := TPlace.en) hx
  have ht := lt_true (f := TPlace.en) hlt
  have hn := next_ix hlt (by omega)
  have hsl2 := slTo_len l (srtA (ancs l)) i
  have hclS2 : Clo (.ro 6 ((slTo l (srtA (ancs l)) i).map TLabel.en)) := clo_list TLabel.clo_en
  have hclS3 : Clo (.ro 6 ((slTo l (srtA (ancs l)) (i + 1)).map TLabel.en)) := clo_list TLabel.clo_en
  have hcle : Clo (.agg x.en) := Clo.agg x.clo_en
  obtain ⟨j, f, hj, hfd, hnm, hisn, hisp⟩ := anc_feat hS hg0 (List.mem_of_getElem? hx)
  have hgj : (l.map TFeature.en)[(fnd l x.id).toNat]? = some f.en := by rw [hfd, Int.toNat_natCast, List.getElem?_map, hj]; rfl
  have h0j : 0 ≤ fnd l x.id := by omega
  have hpl := pnTo_len l (srtA (ancs l)) i
  have hTK : ((pnTo l (srtA (ancs l)) i).map (·.box)).length ≤ 1048576 := by rw [List.length_map]; omega
  have hclT : Clo (.ro 4 (((pnTo l (srtA (ancs l)) i).map (·.box)).map TBox.en)) := clo_list TBox.clo_en
  have hcrT : ∀ r ∈ ((pnTo l (srtA (ancs l)) i).map (·.box)).map TBox.en, ∀ y ∈ r, Clo y := clo_rows TBox.clo_en
  have hclB : Clo (.agg (labB x.at_ f.name (frC x.at_ f.name ((pnTo l (srtA (ancs l)) i).map (·.box)))).en) := Clo.agg (TBox.clo_en _)
  have hclU : Clo (.tup [.agg (labB x.at_ f.name (frC x.at_ f.name ((pnTo l (srtA (ancs l)) i).map (·.box)))).en, B (lbOk x.at_ f.name (frC x.at_ f.name ((pnTo l (srtA (ancs l)) i).map (·.box))))]) := Clo.tup (clo_cons hclB (clo_cons (clo_c _) clo_nil))
  rcases Bool.eq_false_or_eq_true (decide ((frC x.at_ f.name ((pnTo l (srtA (ancs l)) i).map (·.box))) < 0)) with hk | hk
  case' inl =>
   have hkg : decide ((frC x.at_ f.name ((pnTo l (srtA (ancs l)) i).map (·.box))) ≥ 0) = false := by simp at hk ⊢; omega
   have hsn := slTo_n hx (by rw [pnC, hnm]; exact hk)
   have hm := pnTo_n hx (by rw [pnC, hnm]; exact hk)
  case' inr =>
   have hkg : decide ((frC x.at_ f.name ((pnTo l (srtA (ancs l)) i).map (·.box))) ≥ 0) = true := by simp at hk ⊢; omega
   have hk3 : inr (frC x.at_ f.name ((pnTo l (srtA (ancs l)) i).map (·.box))) 0 3 = true := by rcases frC_ge (p := x.at_) (s := f.name) (tk := ((pnTo l (srtA (ancs l)) i).map (·.box))) with he | he; (rw [he] at hkg; cases hkg); exact he.1
   have hso := slTo_y hx (by rw [pnC, hnm]; exact hk)
   have hm0 := pnTo_y hx (by rw [pnC, hnm]; exact hk)
   have hm1 : (pnTo l (srtA (ancs l)) (i + 1)).map TLabel.en = (pnTo l (srtA (ancs l)) i).map TLabel.en ++ [[I x.id, S f.name, I (labB x.at_ f.name (frC x.at_ f.name ((pnTo l (srtA (ancs l)) i).map (·.box)))).low.x, I (labB x.at_ f.name (frC x.at_ f.name ((pnTo l (srtA (ancs l)) i).map (·.box)))).low.y, I (labB x.at_ f.name (frC x.at_ f.name ((pnTo l (srtA (ancs l)) i).map (·.box)))).high.x, I (labB x.at_ f.name (frC x.at_ f.name ((pnTo l (srtA (ancs l)) i).map (·.box)))).high.y]] := by rw [hm0, List.map_append, pnL, hnm]; rfl
   have hm2 : ((pnTo l (srtA (ancs l)) (i + 1)).map (·.box)).map TBox.en = ((pnTo l (srtA (ancs l)) i).map (·.box)).map TBox.en ++ [[I (labB x.at_ f.name (frC x.at_ f.name ((pnTo l (srtA (ancs l)) i).map (·.box)))).low.x, I (labB x.at_ f.name (frC x.at_ f.name ((pnTo l (srtA (ancs l)) i).map (·.box)))).low.y, I (labB x.at_ f.name (frC x.at_ f.name ((pnTo l (srtA (ancs l)) i).map (·.box)))).high.x, I (labB x.at_ f.name (frC x.at_ f.name ((pnTo l (srtA (ancs l)) i).map (·.box)))).high.y]] := by rw [hm0, List.map_append, List.map_append, pnL, hnm]; rfl
   have hm3 : (pnTo l (srtA (ancs l)) (i + 1)).length = (pnTo l (srtA (ancs l)) i).length + 1 := by rw [hm0]; simp
 case' neg =>
  have q1 := True.intro
  have ht := lt_false (f := TPlace.en) hlt
  obtain rfl : i = (srtA (ancs l)).length := by omega
  rw [slTo_all])
  | (
 have _ := a2
 clear a2
 refine AW.loopD hE (fun s_ : Nat => (.ro 5 (l.map TFeature.en) :: .any :: .any :: .ro 6 ((slTo l (srtA (ancs l)) i).map TLabel.en) :: .ro 4 ((srtA (ancs l)).map TPlace.en) :: .own 1 ((pnTo l (srtA (ancs l)) i).length + 1) :: I (i : Int) :: S f.name :: .any :: .ref 2 0 4 0 0 :: .any :: I (s_ : Int) :: .any :: .any :: .any :: .any :: .any :: .any :: .any :: .any :: .any :: .any :: .any :: .any :: .any :: .any :: .any :: .any :: .any :: .any :: .any :: .any :: .any :: .any :: .any :: .any :: .any :: .any :: .any :: .any :: .any :: .any :: .any :: .any :: .any :: .any :: .any :: .any :: .any :: .any :: .any :: .any :: .any :: .any :: .any :: .any :: .any :: .any :: .any :: .any :: .any :: .any :: .any :: .any :: .any :: .any :: .any :: .any :: .any :: .any :: .any :: .any :: .any :: .any :: .any :: .any :: .any :: .any :: .any :: .any :: .any :: .any :: .any :: .any :: .any :: .any :: .any :: .any :: .any :: .any :: .any :: .any :: .any :: .any :: .any :: .any :: .any :: .any :: .any :: [])) (fun s_ => [none, some ⟨143, 4, ((pnTo l (srtA (ancs l)) i).length + 1), false, ((pnTo l (srtA (ancs l)) (i + 1)).map (·.box)).map TBox.en⟩, some ⟨143, 4, 0, true, [(labB x.at_ f.name (frC x.at_ f.name ((pnTo l (srtA (ancs l)) i).map (·.box)))).en]⟩, some ⟨143, 4, 0, false, [(labB x.at_ f.name (frC x.at_ f.name ((pnTo l (srtA (ancs l)) i).map (·.box)))).en]⟩]) (fun s_ => s_ - posR (lbGt (pnL l (pnTo l (srtA (ancs l)) i) x)) (slTo l (srtA (ancs l)) i)) (fun s_ => posR (lbGt (pnL l (pnTo l (srtA (ancs l)) i) x)) (slTo l (srtA (ancs l)) i) ≤ s_ ∧ s_ ≤ (slTo l (srtA (ancs l)) i).length) (slTo l (srtA (ancs l)) i).length ⟨posR_le _ _, Nat.le_refl _⟩ ?_ (by first | rfl | ((rw [hm2] <;> rfl))) ?_
 (focus (exact wkI))
 rintro k hJ2
 try dsimp only at hJ2
 try dsimp only
 by_cases hlt : posR (lbGt (pnL l (pnTo l (srtA (ancs l)) i) x)) (slTo l (srtA (ancs l)) i) < k
 case' pos =>
  have p2 := True.intro
  obtain ⟨y, hy⟩ := getD_some (l := (slTo l (srtA (ancs l)) i)) (i := k - 1) (by omega)
  obtain ⟨z1, z2, z3⟩ := ix_dn (k := k) (by omega) (by omega)
  have hgy : ((slTo l (srtA (ancs l)) i).map TLabel.en)[(IntKind.i64.wrap ((k : Int) - 1)).toNat]? = some y.en := by rw [z3, List.getElem?_map, hy]; rfl
  have hkp : decide ((k : Int) > 0) = true := by simp; omega
  have hpy : decide (y.id > x.id) = true := posR_ge (p := lbGt (pnL l (pnTo l (srtA (ancs l)) i) x)) (l := (slTo l (srtA (ancs l)) i)) (i := k - 1) (by omega) hy
 case' neg =>
  have q2 := True.intro
  have ek : posR (lbGt (pnL l (pnTo l (srtA (ancs l)) i) x)) (slTo l (srtA (ancs l)) i) = k := by omega
  have hK1 : ((k : Nat) : Int) ≤ (((slTo l (srtA (ancs l)) i).map TLabel.en).length : Int) := by rw [List.length_map]; omega
  have hd0 : ((slTo l (srtA (ancs l)) i).map TLabel.en).drop ((k : Nat) : Int).toNat = ((slTo l (srtA (ancs l)) i).drop k).map TLabel.en := by rw [Int.toNat_natCast, List.map_drop]
  have ht0 : ((slTo l (srtA (ancs l)) i).map TLabel.en).take ((k : Nat) : Int).toNat = ((slTo l (srtA (ancs l)) i).take k).map TLabel.en := by rw [Int.toNat_natCast, List.map_take]
  have hc1 : Clo (.ro 6 (((slTo l (srtA (ancs l)) i).take k).map TLabel.en)) := clo_list TLabel.clo_en
  have hc2 : Clo (.ro 6 (((slTo l (srtA (ancs l)) i).drop k).map TLabel.en)) := clo_list TLabel.clo_en
  have hl1 : ((slTo l (srtA (ancs l)) i).take k).length ≤ 1048576 := by rw [List.length_take]; omega
  have hl2 : ((slTo l (srtA (ancs l)) i).drop k).length ≤ 1048576 := by rw [List.length_drop]; omega
  have hap : (slTo l (srtA (ancs l)) (i + 1)).map TLabel.en = ((slTo l (srtA (ancs l)) i).take k).map TLabel.en ++ [[I x.id, S f.name, I (labB x.at_ f.name (frC x.at_ f.name ((pnTo l (srtA (ancs l)) i).map (·.box)))).low.x, I (labB x.at_ f.name (frC x.at_ f.name ((pnTo l (srtA (ancs l)) i).map (·.box)))).low.y, I (labB x.at_ f.name (frC x.at_ f.name ((pnTo l (srtA (ancs l)) i).map (·.box)))).high.x, I (labB x.at_ f.name (frC x.at_ f.name ((pnTo l (srtA (ancs l)) i).map (·.box)))).high.y]] ++ ((slTo l (srtA (ancs l)) i).drop k).map TLabel.en := by rw [hso, insL_map, ek, pnL, hnm]; rfl
  have hclT2 : Clo (.ro 6 ((slTo l (srtA (ancs l)) (i + 1)).map TLabel.en)) := clo_list TLabel.clo_en
  have hcr : ∀ r ∈ ((slTo l (srtA (ancs l)) i).take k).map TLabel.en ++ [[I x.id, S f.name, I (labB x.at_ f.name (frC x.at_ f.name ((pnTo l (srtA (ancs l)) i).map (·.box)))).low.x, I (labB x.at_ f.name (frC x.at_ f.name ((pnTo l (srtA (ancs l)) i).map (·.box)))).low.y, I (labB x.at_ f.name (frC x.at_ f.name ((pnTo l (srtA (ancs l)) i).map (·.box)))).high.x, I (labB x.at_ f.name (frC x.at_ f.name ((pnTo l (srtA (ancs l)) i).map (·.box)))).high.y]] ++ ((slTo l (srtA (ancs l)) i).drop k).map TLabel.en, ∀ y ∈ r, Clo y := hap ▸ clo_rows TLabel.clo_en
  rcases Nat.eq_zero_or_pos k with h0 | h0
  case' inl =>
   subst h0
   have hkp : decide (((0 : Nat) : Int) > 0) = false := by decide
  case' inr =>
   obtain ⟨y, hy⟩ := getD_some (l := (slTo l (srtA (ancs l)) i)) (i := k - 1) (by omega)
   obtain ⟨z1, z2, z3⟩ := ix_dn (k := k) (by omega) (by omega)
   have hgy : ((slTo l (srtA (ancs l)) i).map TLabel.en)[(IntKind.i64.wrap ((k : Int) - 1)).toNat]? = some y.en := by rw [z3, List.getElem?_map, hy]; rfl
   have hkp : decide ((k : Int) > 0) = true := by simp; omega
   have hpy : decide (y.id > x.id) = false := posR_lt (p := lbGt (pnL l (pnTo l (srtA (ancs l)) i) x)) (l := (slTo l (srtA (ancs l)) i)) (y := y) (by omega) (by rw [ek]; exact hy))) <;> (try dsimp only))
 all_goals first
  | (have _ := p2; refine ⟨k - 1, _, ⟨by omega, by omega⟩, by omega, ?_, rfl, ?_, ?_⟩; (focus ((refine wkj ?_; repeat' with_reducible constructor) <;> first | rfl | (rw [z2]; done))); (focus (exact fitsA)); (focus (exact fitsM_none (fitsM_cons (clo_rows TBox.clo_en) (fitsM_cons (clo_one (TBox.clo_en _)) (fitsM_cons (clo_one (TBox.clo_en _)) (FitsM.nil _)))))))
  | (have _ := q2; refine ⟨i + 1, _, (by assumption), by omega, ?_, by rw [hm3] <;> rfl, ?_, ?_⟩; (focus ((refine wkj ?_; repeat' with_reducible constructor) <;> first | rfl | (rw [hap] <;> rfl) | (rw [hn]; done) | (rw [hm3]; done))); (focus (exact fitsA)); (focus (exact fitsM_none (fitsM_cons (clo_rows TBox.clo_en) (FitsM.nil _)))))
  | (have _ := a2; refine ⟨i + 1, _, hlt, by omega, ?_, by rw [hm] <;> rfl, ?_, ?_⟩; (focus ((refine wkj ?_; repeat' with_reducible constructor) <;> first | rfl | (rw [hsn] <;> rfl) | (rw [hn]; done) | (rw [hm]; done))); (focus (exact fitsA)); (focus (exact fitsM_none (fitsM_cons (clo_rows TBox.clo_en) (FitsM.nil _)))))
  | (have _ := q1; exact Fin.one rfl (RV.tmp (by rfl)) (clo_list TLabel.clo_en) ⟨rfl, rfl⟩)

end Go.Proofs.YtpffahmmklpifaaGreat.Abs

/- The walks of ChartOf. -/
namespace Go.Proofs.YtpffahmmklpifaaGreat.Abs
open Go.Proofs Go.RowKit
set_option linter.unusedVariables false
set_option linter.unusedSimpArgs false
set_option maxRecDepth 100000
set_option maxHeartbeats 2000000
attribute [local irreducible] OpA AL AW DL DLM DLR DLS QOp POp VCalls VCallsI
attribute [local irreducible] shown chs plN shAll chsTo has
theorem chart_s (l : List TFeature) (v : TLevel) (hS : isSource l = true) (hg0 : ∀ x ∈ l, x.gd) (hV : isLevel v = true) : VCalls Tryz.prog 71 [.ro 5 (l.map TFeature.en), .agg v.en] (fun r M => r = .tup [.agg (chart l v).en, B true] ∧ M = []) := by
 refine VB Tryz.func71 50 (fun E hE => ?_)
 have hclo : Clo (.ro 5 (l.map TFeature.en)) := clo_list TFeature.clo_en
 have hsl := src_len hS
 have hl1 : l.length ≤ 1048576 := by omega
 have hsh := shown_le hS v
 have hclI : Clo (.ro 1 ((shown l v).map enI)) := clo_list clo_enI
 have hclL : Clo (.agg v.en) := Clo.agg v.clo_en
 have hS2 := chs_src hS v
 have hg2 := chs_gd hg0 v
 have hS3 := chF_src hS v
 have hg3 := chF_gd hg0 v
 have hcl2 : Clo (.ro 5 ((chs l v).map TFeature.en)) := clo_list TFeature.clo_en
 have hcl3 : Clo (.ro 5 ((chF l v).map TFeature.en)) := clo_list TFeature.clo_en
 have hcl4 : Clo (.ro 6 ((plN (chF l v)).map TLabel.en)) := clo_list TLabel.clo_en
 have hc2l : (chs l v).length ≤ 1048576 := by have := src_len hS2; omega
 dsimp only [TLevel.en]
 repeat' ((first
  | (refine iAL ?_; first | refine AL.any ?_ | refine AL.any (h := POp.k Tryz.func78 (hc := isSrcT_s l (by omega) hg0 hS)) ?_ | refine AL.any (h := POp.k Tryz.func108 (hc := cloneF_s' x hsx)) ?_ | refine AL.any (h := POp.k Tryz.func134 (hc := shown_s l v hS hg0 hV)) ?_ | refine AL.any (h := POp.k Tryz.func135 (hc := has_s (shown l v) x.id (by omega))) ?_ | refine AL.any (h := POp.k Tryz.func136 (hc := shAll_s (chs l v) v.least hc2l hg2)) ?_ | refine AL.any (h := POp.k Tryz.func137 (hc := pln_s (chF l v) hS3 hg3)) ?_ | refine AL.T ?_ | refine AL.T (h := POp.k Tryz.func133 (hc := isLevT_s v hV)) ?_ | refine AL.nil ?_)
  | (refine iAW ?_; first | (refine AW.freeze /-Ret-/ (t := 7) (id := 2) (b := ⟨81, 5, (chs l v).length, false, (chs l v).map TFeature.en⟩) rfl rfl rfl rfl (clo_rows TFeature.clo_en) ?_; try dsimp only [dput, List.set, cond_true, cond_false, Nat.zero_add, Nat.add_zero, Nat.reduceAdd, splice, List.take, List.drop, List.length, List.nil_append, List.cons_append, List.append, TPoint.en, TSegment.en, TBox.en, TFeature.en, TMeet.en, TPlace.en, TCover.en, TLabel.en, TPiece.en, TLevel.en, TChart.en, TReason.en, TEdit.en, TEntry.en, TEdition.en, TListing.en, TAtlas.en, TEvent.en, TWindow.en]) | (refine AW.c0 ?_; constructor) | refine AW.cT ?_ | refine AW.cF ?_)
  | (
 refine AW.loopD hE (fun i : Nat => [.ro 5 (l.map TFeature.en), .any, .any, .ref 0 0 3 0 0, .ref 1 0 2 0 0, .any, .ro 1 ((shown l v).map enI), .own 2 (chsTo l v i).length, I (i : Int), .any, .any, .any, .any, .any, .any, .any, .any, .any, .any, .any, .any, .any, .any, .any, .any, .any, .any, .any, .any, .any, .any, .any, .any, .any, .any, .any, .any, .any, .any, .any, .any, .any, .any, .any, .any, .any, .any, .any, .any, .any, .any, .any]) (fun i => [some ⟨47, 3, 0, true, [v.en]⟩, some ⟨65, 2, 0, true, [[.c (.slice none 0 0), .c (.slice none 0 0)]]⟩, some ⟨81, 5, (chsTo l v i).length, false, (chsTo l v i).map TFeature.en⟩]) (fun i => l.length - i) (fun i => i ≤ l.length) 0 (by simp) ?_ (by first | rfl | ((simp [chsTo, TLevel.en]))) ?_
 (focus ((refine wkj ?_; repeat' with_reducible constructor) <;> first | rfl | (first | rfl | (simp [chsTo]))))
 intro i hi
 by_cases hlt : i < l.length
 case' pos =>
  have hP := True.intro
  obtain ⟨x, hx⟩ : ∃ x, l[i]? = some x := ⟨_, List.getElem?_eq_getElem hlt⟩
  have hg := map_get (f := TFeature.en) hx
  have ht := lt_true (f := TFeature.en) hlt
  have hn := next_ix hlt (by omega)
  have hgx := hg0 x (List.mem_of_getElem? hx)
  have hsx : x.sm := hgx.1
  have hcle : Clo (.agg x.en) := Clo.agg x.clo_en
  have hclP : Clo (.ro 2 (x.points.map TPoint.en)) := clo_list TPoint.clo_en
  have hln := chsTo_len l v i
  rcases Bool.eq_false_or_eq_true (has (shown l v) x.id) with hk | hk
  case' inl => obtain ⟨hm, hm2⟩ := chsTo_y hx hk
  case' inr => obtain ⟨hm, hm2⟩ := chsTo_n hx hk
 case' neg =>
  have hQ := True.intro
  have ht := lt_false (f := TFeature.en) hlt
  have e : i = l.length := by omega
  subst e
  try rw [List.take_length]
  rw [chsTo_all])) <;> (try dsimp only))
 all_goals first
  | (have _ := hP; (refine ⟨i + 1, _, hlt, by omega, ?_, by rw [hm, hm2] <;> rfl, ?_, ?_⟩; (focus (exact wkH)); (focus (exact fitsA)); (focus (exact fitsM_cons (clo_one v.clo_en) (fitsM_cons (clo_rows_b rfl) (fitsM_cons (clo_rows TFeature.clo_en) (FitsM.nil _)))))))
  | (have _ := hQ; exact Fin.two rfl (RV.cell (QOp.quietA TT_ok (by rfl))) (RV.tmp (by rfl)) (Clo.tup (clo_cons (Clo.agg (TChart.clo_en _)) (clo_cons (clo_c _) clo_nil))) ⟨rfl, rfl⟩)

theorem chart0_s (l : List TFeature) (v : TLevel) (hl : l.length ≤ 1048576) (hg0 : ∀ x ∈ l, x.gd) (hK : chtOk l v = false) : VCalls Tryz.prog 71 [.ro 5 (l.map TFeature.en), .agg v.en] (fun r M => r = .tup [.agg [.c (.slice none 0 0), .c (.slice none 0 0)], B false] ∧ M = []) := by
 refine VB Tryz.func71 50 (fun E hE => ?_)
 have hclo : Clo (.ro 5 (l.map TFeature.en)) := clo_list TFeature.clo_en
 have hclL : Clo (.agg v.en) := Clo.agg v.clo_en
 dsimp only [TLevel.en]
 rcases Bool.eq_false_or_eq_true (isSource l) with hS | hS
 case' inl => have hV : isLevel v = false := by rw [chtOk, hS] at hK; exact hK
 repeat' ((first
  | (refine iAL ?_; first | refine AL.any ?_ | refine AL.any (h := POp.k Tryz.func78 (hc := isSource_s l hl hg0)) ?_ | refine AL.F ?_ | refine AL.T ?_ | refine AL.T (h := POp.k Tryz.func133 (hc := isLevel_s v)) ?_ | refine AL.nil ?_)
  | (refine iAW ?_; first | (refine AW.c0 ?_; constructor) | refine AW.cT ?_)) <;> (try dsimp only))
 all_goals exact Fin.two rfl (RV.cell (QOp.quietA TT_ok (by rfl))) (RV.tmp (by rfl)) (clo_of (by rfl)) ⟨rfl, rfl⟩

end Go.Proofs.YtpffahmmklpifaaGreat.Abs

/- The walks of LeftOut. -/
namespace Go.Proofs.YtpffahmmklpifaaGreat.Abs
open Go.Proofs Go.RowKit
set_option linter.unusedVariables false
set_option linter.unusedSimpArgs false
set_option maxRecDepth 100000
set_option maxHeartbeats 2000000
attribute [local irreducible] OpA AL AW DL DLM DLR DLS QOp POp VCalls VCallsI
attribute [local irreducible] chF plN
theorem chtOk_t {l : List TFeature} {v : TLevel} (h : chtOk l v = true) : isSource l = true ∧ isLevel v = true := by unfold chtOk at h; simpa using h
end Go.Proofs.YtpffahmmklpifaaGreat.Abs

/- The walks of AreApart, IsChart, ChartAt and AreNamesApart. -/
namespace Go.Proofs.YtpffahmmklpifaaGreat.Abs
open Go.Proofs Go.RowKit
set_option linter.unusedVariables false
set_option linter.unusedSimpArgs false
set_option maxRecDepth 100000
set_option maxHeartbeats 2000000
attribute [local irreducible] OpA AL AW DL DLM DLR DLS QOp POp VCalls VCallsI
attribute [local irreducible] chF plN fnd ovB
end Go.Proofs.YtpffahmmklpifaaGreat.Abs

/- The walks of points dropped, of features shrunk, what they make as rows of our own. -/
namespace Go.Proofs.YtpffahmmklpifaaGreat.Abs
open Go.Proofs Go.RowKit
set_option linter.unusedVariables false
set_option linter.unusedSimpArgs false
set_option maxRecDepth 100000
set_option maxHeartbeats 2000000
attribute [local irreducible] OpA AL AW DL DLM DLR DLS QOp POp VCalls VCallsI
attribute [local irreducible] drp
theorem dp_o (l : List TPoint) (i : Nat) (hl : l.length ≤ 1048576) : VCalls Tryz.prog 309 [.ro 2 (l.map TPoint.en), I (i : Int)] (fun r M => r = .tup [.own 0 0, B (dpOk l i)] ∧ M = [some ⟨141, 2, 0, false, (dpL l i).map TPoint.en⟩]) := by
 refine VB Tryz.func309 27 (fun E hE => ?_)
 have hclo : Clo (.ro 2 (l.map TPoint.en)) := clo_list TPoint.clo_en
 rcases dp_cases l i with ⟨h1, hpk, hpl⟩ | ⟨h1, h2, hpk, hpl⟩ | ⟨h1, h2, h3, hpk, hpl⟩ | ⟨h1, h2, h3, hpk, hpl⟩
 case' inr.inr.inl =>
  have hil : i < l.length := by have := inP_t hl h2; omega
  have hd := drp_len hil
  have hl2 : (drp l i).length ≤ 1048576 := by omega
  have hclD : Clo (.ro 2 ((drp l i).map TPoint.en)) := clo_list TPoint.clo_en
  have hlr := inP_t hl h2
 case' inr.inr.inr =>
  have hil : i < l.length := by have := inP_t hl h2; omega
  have hd := drp_len hil
  have hl2 : (drp l i).length ≤ 1048576 := by omega
  have hclD : Clo (.ro 2 ((drp l i).map TPoint.en)) := clo_list TPoint.clo_en
  have hlr := inP_t hl h2
 repeat' ((first
  | (refine iAL ?_; first | refine AL.any ?_ | refine AL.any (h := POp.O Tryz.func178 (hc := clonePoint l hl)) ?_ | refine AL.any (h := POp.k Tryz.func245 (hc := isLine_i l hl)) ?_ | refine AL.any (h := POp.D Tryz.func245 (hc := isLine_i (drp l i) hl2) (hvw := vwlF)) ?_ | refine AL.any (h := POp.O Tryz.func328 (hc := without_v l i hl hil (by omega))) ?_ | refine AL.F ?_ | refine AL.T ?_ | refine AL.T (h := POp.k Tryz.func145 (hc := inr_v _ _ _)) ?_ | refine AL.nil ?_)
  | (refine iAW ?_; first | (refine AW.c0 ?_; constructor) | refine AW.cT ?_ | refine AW.cF ?_)) <;> (try dsimp only))
 all_goals (rw [hpk, hpl]; first | exact Fin.r2 [0] rfl (RV.tmp (by rfl)) (RV.tmp (by rfl)) ⟨rfl, rfl⟩ | exact Fin.r2 [1] rfl (RV.tmp (by rfl)) (RV.tmp (by rfl)) ⟨rfl, rfl⟩)

theorem dc_o (l : List TPoint) (i : Nat) (hl : l.length ≤ 1048576) : VCalls Tryz.prog 310 [.ro 2 (l.map TPoint.en), I (i : Int)] (fun r M => r = .tup [.own 0 0, B (dcOk l i)] ∧ M = [some ⟨141, 2, 0, false, (dcL l i).map TPoint.en⟩]) := by
 refine VB Tryz.func310 36 (fun E hE => ?_)
 have hclo : Clo (.ro 2 (l.map TPoint.en)) := clo_list TPoint.clo_en
 rcases dc_cases l i with ⟨h1, hpk, hpl⟩ | ⟨h1, h2, hpk, hpl⟩ | ⟨h1, h2, h3, hpk, hpl⟩ | ⟨h1, h2, h3, h4, hpk, hpl⟩ | ⟨h1, h2, h3, h4, hpk, hpl⟩
 case' inr.inr.inl =>
  have hil : i < l.length := inC_t hl h2
  have hd := drp_len hil
  have hl2 : (drp l i).length ≤ 1048576 := by omega
  have hclD : Clo (.ro 2 ((drp l i).map TPoint.en)) := clo_list TPoint.clo_en
  have hlr := (isRing_len h1).1
 case' inr.inr.inr.inl =>
  have hil : i < l.length := inC_t hl h2
  have hd := drp_len hil
  have hl2 : (drp l i).length ≤ 1048576 := by omega
  have hclD : Clo (.ro 2 ((drp l i).map TPoint.en)) := clo_list TPoint.clo_en
  have hlr := (isRing_len h1).1
 case' inr.inr.inr.inr =>
  have hil : i < l.length := inC_t hl h2
  have hd := drp_len hil
  have hl2 : (drp l i).length ≤ 1048576 := by omega
  have hclD : Clo (.ro 2 ((drp l i).map TPoint.en)) := clo_list TPoint.clo_en
  have hlr := (isRing_len h1).1
 case' inr.inr.inr.inl => have hcm := turn_cmp h1 h3
 case' inr.inr.inr.inr => have hcm := turn_cmp h1 h3
 all_goals try (rw [h4] at hcm; simp only [Bool.not_true, Bool.not_false] at hcm)
 repeat' ((first
  | (refine iAL ?_; first | refine AL.any ?_ | refine AL.any (h := POp.O Tryz.func178 (hc := clonePoint l hl)) ?_ | refine AL.any (h := POp.k Tryz.func182 (hc := isRing_i l hl)) ?_ | refine AL.any (h := POp.D Tryz.func182 (hc := isRing_i (drp l i) hl2) (hvw := vwlF)) ?_ | refine AL.any (h := POp.O Tryz.func328 (hc := without_v l i hl hil (by omega))) ?_ | refine AL.F ?_ | refine AL.T ?_ | refine AL.T (h := POp.k Tryz.func128 (hc := cmp_v _ _)) ?_ | refine AL.T (h := POp.k Tryz.func145 (hc := inr_v _ _ _)) ?_ | refine AL.T (h := POp.k Tryz.func329 (hc := twice_i l hl)) ?_ | refine AL.T (h := POp.D Tryz.func329 (hc := twice_i (drp l i) hl2) (hvw := vwlF)) ?_ | refine AL.nil ?_)
  | (refine iAW ?_; first | (refine AW.c0 ?_; constructor) | refine AW.cT ?_ | refine AW.cF ?_)) <;> (try dsimp only))
 all_goals (rw [hpk, hpl]; first | exact Fin.r2 [0] rfl (RV.tmp (by rfl)) (RV.tmp (by rfl)) ⟨rfl, rfl⟩ | exact Fin.r2 [1] rfl (RV.tmp (by rfl)) (RV.tmp (by rfl)) ⟨rfl, rfl⟩)

theorem df_o (x : TFeature) (i : Nat) (hg : x.gd) : VCalls Tryz.prog 277 [.agg x.en, I (i : Int)] (fun r M => r = .tup [.agg [I (dfF x i).id, I (dfF x i).kind, I (dfF x i).rank, S (dfF x i).name, .own 0 0], B (dfOk x i)] ∧ M = [some ⟨141, 2, 0, false, ((dfF x i).points).map TPoint.en⟩]) := by
 refine VB Tryz.func277 40 (fun E hE => ?_)
 have hclP : Clo (.ro 2 (x.points.map TPoint.en)) := clo_list TPoint.clo_en
 have hcle : Clo (.agg x.en) := Clo.agg x.clo_en
 have hl := hg.1
 have hsx : x.sm := hg.1
 have hg2 : TFeature.gd ⟨x.id, x.kind, x.rank, x.name, dpL x.points i⟩ := ⟨Nat.le_trans (dpL_len _ _) hg.1, hg.2⟩
 have hg3 : TFeature.gd ⟨x.id, x.kind, x.rank, x.name, dcL x.points i⟩ := ⟨Nat.le_trans (dcL_len _ _) hg.1, hg.2⟩
 rcases df_cases x i with ⟨k2, ho, hdf, hok⟩ | ⟨k2, ho, hf, hdf, hok⟩ | ⟨k2, ho, hf, hdf, hok⟩ | ⟨k2, k3, ho, hdf, hok⟩ | ⟨k2, k3, ho, hf, hdf, hok⟩ | ⟨k2, k3, ho, hf, hdf, hok⟩ | ⟨k2, k3, hdf, hok⟩
 all_goals dsimp only [TFeature.en] at *
 repeat' ((first
  | (refine iAL ?_; first | refine AL.any ?_ | refine AL.any (h := POp.O Tryz.func118 (hc := cloneF x hsx)) ?_ | refine AL.any (h := POp.O Tryz.func309 (hc := dp_o x.points i hl)) ?_ | refine AL.any (h := POp.O Tryz.func310 (hc := dc_o x.points i hl)) ?_ | refine AL.F ?_ | refine AL.T ?_ | refine AL.T (h := POp.D Tryz.func119 (hc := isFeat_i (⟨x.id, x.kind, x.rank, x.name, dpL x.points i⟩ : TFeature) hg2) (hvw := vwlF)) ?_ | refine AL.T (h := POp.D Tryz.func119 (hc := isFeat_i (⟨x.id, x.kind, x.rank, x.name, dcL x.points i⟩ : TFeature) hg3) (hvw := vwlF)) ?_ | refine AL.nil ?_)
  | (refine iAW ?_; first | (refine AW.c0 ?_; constructor) | refine AW.cT ?_ | refine AW.cF ?_)) <;> (try dsimp only))
 all_goals (rw [hdf, hok]; first | exact Fin.r2 [4] rfl (RV.cell (QOp.quietA TT_ok (by rfl))) (RV.tmp (by rfl)) ⟨rfl, rfl⟩ | exact Fin.r2 [5] rfl (RV.cell (QOp.quietA TT_ok (by rfl))) (RV.tmp (by rfl)) ⟨rfl, rfl⟩ | exact Fin.r2 [2] rfl (RV.cell (QOp.quietA TT_ok (by rfl))) (RV.tmp (by rfl)) ⟨rfl, rfl⟩ | exact Fin.r2 [3] rfl (RV.cell (QOp.quietA TT_ok (by rfl))) (RV.tmp (by rfl)) ⟨rfl, rfl⟩)

end Go.Proofs.YtpffahmmklpifaaGreat.Abs

/- The walks of ShrinkFeature and of ShrinkAll, what they make as rows of our own. -/
namespace Go.Proofs.YtpffahmmklpifaaGreat.Abs
open Go.Proofs Go.RowKit
set_option linter.unusedVariables false
set_option linter.unusedSimpArgs false
set_option maxRecDepth 100000
set_option maxHeartbeats 2000000
attribute [local irreducible] OpA AL AW DL DLM DLR DLS QOp POp VCalls VCallsI
theorem fitsM_b {n : Nat} {b : Blk} {M : Mem} (h : ∀ r ∈ b.es, ∀ x ∈ r, Fits n x) (hm : FitsM n M) : FitsM n (some b :: M) := fun b' hb r hr x hx => by
 rcases List.mem_cons.1 hb with e | hb
 · cases e
   exact h r hr x hx
 · exact hm b' hb r hr x hx
theorem one_row {p : AV → Prop} {r0 : List AV} (h : ∀ x ∈ r0, p x) : ∀ r ∈ [r0], ∀ x ∈ r, p x := fun r hr => by rw [List.mem_singleton.1 hr]; exact h
theorem dfB_o (x : TFeature) (b : Int) (hb : ∃ k : Nat, b = (k : Int)) (hg : x.gd) : VCalls Tryz.prog 277 [.agg x.en, I b] (fun r M => r = .tup [.agg [I (dfF x b.toNat).id, I (dfF x b.toNat).kind, I (dfF x b.toNat).rank, S (dfF x b.toNat).name, .own 0 0], B (dfOk x b.toNat)] ∧ M = [some ⟨141, 2, 0, false, ((dfF x b.toNat).points).map TPoint.en⟩]) := by
 obtain ⟨k, rfl⟩ := hb
 exact df_o x k hg
theorem shrF_o (f : TFeature) (os : List TFeature) (least : Int) (hgf : f.gd) (hF : isFeat f = true) (hos : os.length ≤ 1048576) (hgo : ∀ o ∈ os, o.gd) : VCalls Tryz.prog 210 [.agg f.en, .ro 5 (os.map TFeature.en), I least] (fun r M => r = .agg [I (shr os least f).id, I (shr os least f).kind, I (shr os least f).rank, S (shr os least f).name, .own 0 0] ∧ M = [some ⟨141, 2, 0, false, ((shr os least f).points).map TPoint.en⟩]) := by
 refine VB Tryz.func210 54 (fun E hE => ?_)
 have a1 := True.intro
 have hclo : Clo (.ro 5 (os.map TFeature.en)) := clo_list TFeature.clo_en
 have hclf : Clo (.agg f.en) := Clo.agg f.clo_en
 have hsf : f.sm := hgf.1
 have hclP : Clo (.ro 2 (f.points.map TPoint.en)) := clo_list TPoint.clo_en
 repeat' ((first
  | (refine iAL ?_; first | refine AL.any (h := POp.gh POp.mk (Gh.reown (q := 3) (id := 2) (id2 := 4) (i := 0) (j := 4) rfl rfl rfl rfl rfl rfl rfl rfl rfl (DCl.map (fun _ => rfl)))) ?_ | refine AL.any ?_ | refine AL.any (h := POp.O Tryz.func118 (hc := cloneF f hsf)) ?_ | refine AL.any (h := POp.k Tryz.func119 (hc := isFeatT_i f hgf hF)) ?_ | refine AL.any (h := POp.D Tryz.func275 (hc := size_i out i hgt) (hvw := vwlF)) ?_ | refine AL.any (h := POp.O Tryz.func277 (hc := dfB_o out (bestTo out os least out.points.length) hbk hgt)) ?_ | refine AL.U ?_ | refine AL.F ?_ | refine AL.T ?_ | refine AL.T (h := POp.D Tryz.func275 (hc := sizeB_i out (bestTo out os least i) (by assumption) hgt) (hvw := vwlF)) ?_ | refine AL.T (h := POp.D Tryz.func276 (hc := can_i out i os hgt hos hgo) (hvw := vwlF)) ?_ | refine AL.nil ?_)
  | (refine iAW ?_; first | (refine AW.c0 ?_; constructor) | refine AW.cT ?_ | refine AW.cF ?_)
  | (
 have _ := a1
 clear a1
 refine AW.loopD hE (fun s_ : TFeature × Nat => [.any, .ro 5 (os.map TFeature.en), I least, .ref 0 0 5 0 0, .any, .any, .ref 1 0 5 0 0, .ref 3 0 5 0 0, .any, .any, .any, .any, .any, .any, .any, .any, .any, .any, .any, .any, .any, .any, .any, .any, .any, .any, .any, .any, .any, .any, .any, .any, .any, .any, .any, .any, .any, .any, .any, .any, .any, .any, .any, .any, .any, .any, .any, .any, .any, .any, .any, .any, .any, .any, .any, .any, .any]) (fun s_ => [some ⟨81, 5, 0, true, [f.en]⟩, some ⟨81, 5, 0, true, [[.c (.int .i64 0), .c (.int .i64 0), .c (.int .i64 0), .c (.string ⟨#[]⟩), .c (.slice none 0 0)]]⟩, some ⟨141, 2, s_.2, false, (s_.1.points).map TPoint.en⟩, some ⟨81, 5, 0, true, [[I s_.1.id, I s_.1.kind, I s_.1.rank, S s_.1.name, .own 2 s_.2]]⟩]) (fun s_ => s_.1.points.length) (fun s_ => s_.1.gd ∧ shr os least s_.1 = shr os least f) (f, 0) ⟨hgf, rfl⟩ ?_ (by first | rfl | (rfl)) ?_
 (focus (exact wkI))
 rintro ⟨out, g⟩ hJ
 try dsimp only at hJ
 try dsimp only
 by_cases hlt : True
 case' pos =>
  have a2 := True.intro
  obtain ⟨hgt, hsh⟩ := hJ
  have hol := hgt.1
  have hclt : Clo (.agg out.en) := Clo.agg out.clo_en
 case' neg =>
  have q1 := True.intro
  exact absurd trivial hlt)
  | (
 have _ := a2
 clear a2
 refine AW.loopD hE (fun s_ : Nat => [.any, .ro 5 (os.map TFeature.en), I least, .ref 0 0 5 0 0, .any, .any, .ref 1 0 5 0 0, .ref 3 0 5 0 0, I (bestTo out os least s_), .any, .any, .any, .any, .any, .any, .any, .any, .any, .any, I ((out.points.map TPoint.en).length : Int), I (s_ : Int), .any, .any, .any, .any, .any, .any, .any, .any, .any, .any, .any, .any, .any, .any, .any, .any, .any, .any, .any, .any, .any, .any, .any, .any, .any, .any, .any, .any, .any, .any, .any, .any, .any, .any, .any, .any]) (fun s_ => [some ⟨81, 5, 0, true, [f.en]⟩, some ⟨81, 5, 0, true, [[.c (.int .i64 0), .c (.int .i64 0), .c (.int .i64 0), .c (.string ⟨#[]⟩), .c (.slice none 0 0)]]⟩, some ⟨141, 2, g, false, (out.points).map TPoint.en⟩, some ⟨81, 5, 0, true, [[I out.id, I out.kind, I out.rank, S out.name, .own 2 g]]⟩]) (fun s_ => out.points.length - s_) (fun s_ => s_ ≤ out.points.length) 0 (Nat.zero_le _) ?_ (by first | rfl | (rfl)) ?_
 (focus (exact wkI))
 rintro i hJ2
 try dsimp only at hJ2
 try dsimp only
 by_cases hlt : i < out.points.length
 case' pos =>
  have p2 := True.intro
  have ht := lt_true (f := TPoint.en) hlt
  have hn := next_ix hlt (by omega)
  rcases pick_cases os least i hol with ⟨g1, g4, hbn⟩ | ⟨g1, g2, hbn⟩ | ⟨g1, g2, g3, g4, hbn⟩ | ⟨g1, g2, g3, g4, hbn⟩ | ⟨g1, g2, g3, hbk, g5, hbn⟩ | ⟨g1, g2, g3, hbk, g5, g4, hbn⟩ | ⟨g1, g2, g3, hbk, g5, g4, hbn⟩
  case' inl => rcases Bool.eq_false_or_eq_true (decide (sizeA out i < least)) with g2 | g2
  case' inl.inl => rcases Bool.eq_false_or_eq_true (decide (bestTo out os least i < 0)) with g3 | g3
  case' inl.inl.inr =>
   have hbk : ∃ k : Nat, bestTo out os least i = (k : Int) := by
    rcases best_form out os least i with hb | ⟨k, _, hb, _⟩
    · rw [hb] at g3; cases g3
    · exact ⟨k, hb⟩
   rcases Bool.eq_false_or_eq_true (decide (sizeA out i < sizeA out (bestTo out os least i).toNat)) with g5 | g5
 case' neg =>
  have q2 := True.intro
  have ht := lt_false (f := TPoint.en) hlt
  have ei : i = out.points.length := by omega
  rw [ei]
  rcases best_form out os least out.points.length with hb | ⟨k, _, hb, hck⟩
  case' inl =>
   have hb0 : decide (bestTo out os least out.points.length < 0) = true := by rw [hb]; rfl
   have hres : shr os least f = out := by rw [← hsh, shr_end hb]
  case' inr =>
   have hb0 : decide (bestTo out os least out.points.length < 0) = false := by rw [hb]; simp
   have hbk : ∃ k : Nat, bestTo out os least out.points.length = (k : Int) := ⟨k, hb⟩
   have hst := shr_step hol hb hck
   have hbt : (bestTo out os least out.points.length).toNat = k := by rw [hb]; rfl)) <;> (try dsimp only))
 all_goals first
  | (have _ := p2; refine ⟨i + 1, _, hlt, by omega, ?_, rfl, ?_, ?_⟩; (focus ((refine wkj ?_; repeat' with_reducible constructor) <;> first | rfl | (rw [hbn]; done) | (rw [hn]; done))); (focus (exact fitsA)); (focus (exact fitsM_cons (clo_one f.clo_en) (fitsM_cons (clo_rows_b rfl) (fitsM_cons (clo_rows TPoint.clo_en) (fitsM_b (one_row (by (repeat' (first | exact Fits.nil _ | refine Fits.cons ?_ ?_ | exact Fits.any _ | exact Fits.c _ _ | exact Fits.own (by rfl) | exact Fits.ref (by rfl) | exact Fits.clo (by assumption) | exact Fits.clo (clo_of (by rfl)) | exact Fits.clo (clo_fn _))))) (FitsM.nil _)))))))
  | (have _ := q2; rw [hres]; exact Fin.r1 [2] rfl (RV.cell (QOp.quietA TT_ok (by rfl))) ⟨rfl, rfl⟩)
  | (have _ := q2; refine ⟨(dfF out (bestTo out os least out.points.length).toNat, g + 1), _, ⟨dfF_gd hgt _, by rw [hbt, ← hst.1, hsh]⟩, by (rw [hbt]; exact hst.2), ?_, rfl, ?_, ?_⟩; (focus (exact wkN)); (focus (exact fitsA)); (focus (exact fitsM_cons (clo_one f.clo_en) (fitsM_cons (clo_rows_b rfl) (fitsM_cons (clo_rows TPoint.clo_en) (fitsM_b (one_row (by (repeat' (first | exact Fits.nil _ | refine Fits.cons ?_ ?_ | exact Fits.any _ | exact Fits.c _ _ | exact Fits.own (by rfl) | exact Fits.ref (by rfl) | exact Fits.clo (by assumption) | exact Fits.clo (clo_of (by rfl)) | exact Fits.clo (clo_fn _))))) (FitsM.nil _)))))))

theorem shAll_o (l : List TFeature) (least : Int) (hl : l.length ≤ 1048576) (hg0 : ∀ x ∈ l, x.gd) : VCalls Tryz.prog 142 [.ro 5 (l.map TFeature.en), I least] (fun r M => r = .own 0 0 ∧ M = [some ⟨81, 5, 0, false, (shAll l least).map TFeature.ed⟩]) := by
 refine VB Tryz.func142 39 (fun E hE => ?_)
 have a1 := True.intro
 have hclo : Clo (.ro 5 (l.map TFeature.en)) := clo_list TFeature.clo_en
 have hsm : ∀ x ∈ l, x.sm := fun x hx => (hg0 x hx).1
 rcases Bool.eq_false_or_eq_true (isSource l) with hS | hS
 repeat' ((first
  | (refine iAL ?_; first | refine AL.any (h := POp.append (es := (cpf us (skA l least i)).drop (i + 1)) (by rfl) rwk45 (by rfl) (by rfl) (by rfl) (by rfl) (by rfl) (by rfl) (by rfl) (SrcA.subE (by rfl) (by rfl) (by rfl) (by rfl) (by exact hb2) (by exact rdb_nmf) (by exact sub_cpfE _ _ _)) (by simp <;> omega) (by simp [maxLen] <;> omega)) ?_ | refine AL.any (h := POp.quiet (QOp.ldr_cpy (cs := [I x.id, I x.kind, I x.rank, S x.name, .c (us i 4)]) (by rfl) (by rfl) (by rfl) (by rfl) (by rfl) (by exact hgn) ldk81 rfl (by rfl) (by rfl))) ?_ | refine AL.any (h := POp.gh POp.mk (Gh.trans (Gh.absorbS (q := 0) (id := 3) (j := 4) rfl (by assumption) rfl rfl rfl rfl rfl (DCl.map (fun _ => rfl)) TPoint.und) (Gh.forget (id := 0) (es2 := (skA l least (i + 1)).map TFeature.ed) rfl rfl hst))) ?_ | refine AL.any ?_ | refine AL.any (h := POp.k Tryz.func80 (hc := isSource_i l hl hg0)) ?_ | refine AL.any (h := POp.O Tryz.func168 (hc := cpS_i _ (by assumption) (by assumption))) ?_ | refine AL.any (h := POp.O Tryz.func210 (hc := shrF_o x (oth (skA l least i) i) least hgx hfx hol hog) (hvw := VwL.cons (View.agg' (VwL.cons (View.same (clo_c _)) (VwL.cons (View.same (clo_c _)) (VwL.cons (View.same (clo_c _)) (VwL.cons (View.same (clo_c _)) (VwL.cons (View.is (id := 0) (i := i) (j := 4) (by rfl) (by exact hgn) rfl) VwL.nil)))))) (VwL.cons (viewOth (id := 0) (k := 2) (us := us) hix (by rfl) (by rfl)) (VwL.cons (View.same (clo_c _)) VwL.nil)))) ?_ | refine AL.nil ?_)
  | ((with_reducible show DLR ..); first | refine DLR.any ?_ | refine DLR.row rfl (fun Y => RowRun.empty (by rfl) (by rfl) (by first | exact rwk22 | exact rwk23 | exact rwk24 | exact rwk31 | exact rwk32 | exact rwk33 | exact rwk40 | exact rwk45 | exact rwk79)) rfl rfl ?_ | refine DLR.nil ?_)
  | (refine iAW ?_; first | (have _ := nm1; clear nm1; refine AW.nameF (id := 0) rfl (fun us => ?_); simp only [List.set_cons_zero]; have p1 := True.intro; have hgn := nmf_at (us := us) hx; have hlm : (nmf us (skA l least i)).length = l.length := (nmf_len us _).trans hls; have hcpl : (cpf us (skA l least i)).length = l.length := (cpf_len us _).trans hls; have hil0 : i < (nmf us (skA l least i)).length := (by omega); have hbi : (i : Int) < ((nmf us (skA l least i)).length : Int) := (by omega); have hb1 : 0 + i ≤ (nmf us (skA l least i)).length := (by omega); have hb2 : (i + 1) + ((nmf us (skA l least i)).length - (i + 1)) ≤ (nmf us (skA l least i)).length := (by omega); have hst := skA_setE us hx) | (refine AW.c0 ?_; constructor) | refine AW.drawnR (id := 7) 9 1 [some 0, none, none, none, some 0, none, none, none, none] [some Rsv] rfl (by kernel_rfl) (by kernel_rfl) (by kernel_rfl) (by rfl) ?_ | refine AW.cT ?_ | refine AW.cF ?_)
  | ((with_reducible show DLR ..); first | refine DLR.any (h := fun Y => POp.quiet (QOp.upto_own (m := i) (by rfl) slk45 (by rfl) (by rfl) (by rfl) (by rfl) (by rfl) (by rfl) (by omega) (by rw [hlm]; omega) (Int.toNat_natCast _))) ?_ | refine DLR.any (h := fun Y => POp.quiet (QOp.from_own (i := i + 1) (m := (nmf us (skA l least i)).length - (i + 1)) (by rfl) slk45 (by rfl) (by rfl) (by rfl) (by rfl) (by rfl) (by rfl) (by rw [w1]; omega) (by rw [w1, hlm]; omega) (by rw [w1]; exact Int.toNat_natCast _) rfl)) ?_ | refine DLR.appendSub rfl (by rfl) rwk45 (by rfl) (by rfl) (by rfl) (by rfl) (by rfl) (by rfl) (by rfl) (by rfl) (by rfl) (by rfl) (by rfl) (by rfl) (by exact hb1) (by exact rdb_nmf) (by exact sub_cpf0 _ _ _) (by simp <;> omega) (by simp [maxLen] <;> omega) ?_)
  | (
 have _ := a1
 clear a1
 refine AW.loopD hE (fun s_ : Nat => [.any, I least, .any, .any, .any, .own 0 0, .any, .any, .any, .any, .any, .any, .any, .any, .any, .own 0 0, I ((l.map TFeature.ed).length : Int), I (s_ : Int), .any, .any, .any, .any, .any, .any, .any, .any, .any, .any, .any, .any, .any, .any, .any, .any, .any, .any, .any, .any, .any, .any, .any]) (fun s_ => [some ⟨81, 5, 0, false, (skA l least s_).map TFeature.ed⟩]) (fun s_ => l.length - s_) (fun s_ => s_ ≤ l.length) 0 (Nat.zero_le _) ?_ (by first | rfl | (rfl)) ?_
 (focus (exact wkI))
 rintro i hJ
 try dsimp only at hJ
 try dsimp only
 by_cases hlt : i < l.length
 case' pos =>
  have nm1 := True.intro
  have hls : (skA l least i).length = l.length := skA_len l least i
  obtain ⟨x, hx⟩ := getD_some (l := (skA l least i)) (i := i) (by omega)
  have hgs := skA_gd least hg0 i
  have hfs := skA_feat least ((src_iff l).1 hS).2.1 i
  have hgx := hgs x (List.mem_of_getElem? hx)
  have hfx := hfs x (List.mem_of_getElem? hx)
  have hix : i < (skA l least i).length := by omega
  have hol : (oth (skA l least i) i).length ≤ 1048576 := Nat.le_trans (oth_len _ _) (by omega)
  have hog : ∀ o ∈ oth (skA l least i) i, o.gd := fun o ho => hgs o (oth_mem ho)
  have w1 : IntKind.i64.wrap ((i : Int) + 1) = ((i + 1 : Nat) : Int) := by rw [w64 (by omega) (by omega)]; rfl
  have ht : decide ((i : Int) < ((l.map TFeature.ed).length : Int)) = true := by rw [List.length_map]; simp; omega
  have hn := next_ix hlt (by omega)
 case' neg =>
  have q1 := True.intro
  have ht : decide ((i : Int) < ((l.map TFeature.ed).length : Int)) = false := by rw [List.length_map]; simp; omega
  obtain rfl : i = l.length := by omega
  have hres := shAll_t (least := least) hS)) <;> (try dsimp only))
 all_goals first
  | (have _ := p1; refine ⟨i + 1, _, hlt, by omega, ?_, rfl, ?_, ?_⟩; (focus (exact wkH)); (focus (exact fitsA)); (focus (exact fits_dcl (DCl.map (fun _ => rfl)))))
  | (have _ := q1; rw [hres]; exact Fin.r1 [0] rfl (RV.tmp (by rfl)) ⟨rfl, rfl⟩)
  | (have hres := shAll_f (least := least) hS; rw [hres]; exact Fin.r1 [0] rfl (RV.tmp (by rfl)) ⟨rfl, rfl⟩)

def TAtlas.cs (x : TAtlas) : Nat := ctL TEntry.ct x.log + ctL TLevel.ct x.levels + ctL TEdition.ct x.editions
def TAtlas.ms (k : Int) (x : TAtlas) : TAtlas := ⟨mkL TEntry.mrk TEntry.ct (k) x.log, mkL TLevel.mrk TLevel.ct (k + ((ctL TEntry.ct x.log : Nat) : Int)) x.levels, mkL TEdition.mrk TEdition.ct (k + ((ctL TEntry.ct x.log : Nat) : Int) + ((ctL TLevel.ct x.levels : Nat) : Int)) x.editions, x.cover, x.now⟩
theorem markAtlas (x : TAtlas) (k : Int) (h0 : 0 ≤ k) (hb : k + ((x.cs : Nat) : Int) ≤ 4611686018427387904) : ACalls Tryz.prog 44 [.agg x.eo, I k] x.rw (fun r M => r = I (k + ((x.cs : Nat) : Int)) ∧ ∃ Mx, M = [(⟨135, 8, 0, false, (x.ms k).log.map TEntry.ed⟩ : Blk), (⟨47, 3, 0, false, (x.ms k).levels.map TLevel.en⟩ : Blk), (⟨151, 3, 0, false, (x.ms k).editions.map TEdition.ed⟩ : Blk)].map some ++ Mx) := by
 have hcs : x.cs = ctL TEntry.ct x.log + ctL TLevel.ct x.levels + ctL TEdition.ct x.editions := rfl
 have hend : k + ((ctL TEntry.ct x.log : Nat) : Int) + ((ctL TLevel.ct x.levels : Nat) : Int) + ((ctL TEdition.ct x.editions : Nat) : Int) = k + ((x.cs : Nat) : Int) := by omega
 refine ACalls.body Tryz.func44 rfl 16 rfl (fun E hE => ?_)
 dsimp only [TAtlas.eo, TAtlas.rw]
 simp only [List.reduceReplicate, List.cons_append, List.nil_append]
 repeat' ((first
  | (refine iAL ?_; first | refine AL.any ?_ | refine AL.any (h := POp.H [1] Tryz.func32 (hc := markLevelS 47 x.levels (k + ((ctL TEntry.ct x.log : Nat) : Int)) (by omega) (by omega))) ?_ | refine AL.any (h := POp.H [0] Tryz.func98 (hc := markEntryS 135 x.log (k) (by omega) (by omega))) ?_ | refine AL.any (h := POp.H [2] Tryz.func99 (hc := markEditionS 151 x.editions (k + ((ctL TEntry.ct x.log : Nat) : Int) + ((ctL TLevel.ct x.levels : Nat) : Int)) (by omega) (by omega))) ?_ | refine AL.nil ?_)
  | (refine iAW ?_; (refine AW.c0 ?_; constructor))) <;> (try dsimp only))
 all_goals exact FinA.one rfl (RV.tmp (by rfl)) ⟨by rw [← hend], [_], rfl⟩

def TLabel.ct (x : TLabel) : Nat := 6
def TLabel.mrk (k : Int) (x : TLabel) : TLabel := ⟨k, mtx (k + 1), ⟨⟨k + 1 + 1, k + 1 + 1 + 1⟩, ⟨k + 1 + 1 + 1 + 1, k + 1 + 1 + 1 + 1 + 1⟩⟩⟩
theorem TLabel.ct_pos (x : TLabel) : 1 ≤ x.ct := by unfold TLabel.ct; omega
theorem markLabelS (ty : TypeId) (l : List TLabel) (k : Int) (h0 : 0 ≤ k) (hb : k + ((ctL TLabel.ct l : Nat) : Int) ≤ 4611686018427387904) : ACalls Tryz.prog 100 [.own 0 0, I k] [some ⟨ty, 6, 0, false, l.map TLabel.en⟩] (fun r M => r = I (k + ((ctL TLabel.ct l : Nat) : Int)) ∧ ∃ Mx, M = [(⟨ty, 6, 0, false, (mkL TLabel.mrk TLabel.ct k l).map TLabel.en⟩ : Blk)].map some ++ Mx) := by
 have hll := len_ctL TLabel.ct_pos l
 refine ACalls.body Tryz.func100 rfl 62 rfl (fun E hE => ?_)
 simp only [List.reduceReplicate, List.cons_append, List.nil_append]
 repeat' ((first
  | (refine iAL ?_; first | refine AL.any ?_ | refine AL.nil ?_)
  | (refine iAW ?_; first | (refine AW.c0 ?_; constructor) | (refine AW.loopE (fun i : Nat => [.own 0 0, I (k + ((ctL TLabel.ct (l.take i) : Nat) : Int)), .any, .any, .any, I (i : Int), .any, .any, .any, .any, .any, .any, .any, .any, .any, .any, .any, .any, .any, .any, .any, .any, .any, .any, .any, .any, .any, .any, .any, .any, .any, .any, .any, .any, .any, .any, .any, .any, .any, .any, .any, .any, .any, .any, .any, .any, .any, .any, .any, .any, .any, .any, .any, .any, .any, .any, .any, .any, .any, .any, .any, .any, .any, .any]) (fun i => [some ⟨ty, 6, 0, false, (mkd TLabel.mrk TLabel.ct k l i).map TLabel.en⟩]) (fun i => by rw [hE]; exact Nat.le_refl _) (fun i => l.length - i) (fun i => i ≤ l.length) 0 (Nat.zero_le _) ?_ (by rw [mkd_zero] <;> rfl) ?_))) <;> (try dsimp only))
 · (refine wkj ?_; repeat' with_reducible constructor) <;> first | rfl | (simp [ctL])
 · intro i hi
   by_cases hlt : i < l.length
   · obtain ⟨x, hx⟩ : ∃ x, l[i]? = some x := ⟨_, List.getElem?_eq_getElem hlt⟩
     have hn := next_ix hlt (by omega)
     obtain ⟨K, hK⟩ : ∃ K, K = k + ((ctL TLabel.ct (l.take i) : Nat) : Int) := ⟨_, rfl⟩
     rw [← hK]
     have hct := ctL_le (ct := TLabel.ct) hx
     have hcs := ctL_take (ct := TLabel.ct) hx
     have hcx : TLabel.ct x = 6 := rfl
     have hw0 : IntKind.i64.wrap (K + 1) = K + 1 := w64 (by omega) (by omega)
     have hw1 : IntKind.i64.wrap (K + 1 + 1) = K + 1 + 1 := w64 (by omega) (by omega)
     have hw2 : IntKind.i64.wrap (K + 1 + 1 + 1) = K + 1 + 1 + 1 := w64 (by omega) (by omega)
     have hw3 : IntKind.i64.wrap (K + 1 + 1 + 1 + 1) = K + 1 + 1 + 1 + 1 := w64 (by omega) (by omega)
     have hw4 : IntKind.i64.wrap (K + 1 + 1 + 1 + 1 + 1) = K + 1 + 1 + 1 + 1 + 1 := w64 (by omega) (by omega)
     have hw5 : IntKind.i64.wrap (K + 1 + 1 + 1 + 1 + 1 + 1) = K + 1 + 1 + 1 + 1 + 1 + 1 := w64 (by omega) (by omega)
     have hend : K + 1 + 1 + 1 + 1 + 1 + 1 = k + ((ctL TLabel.ct (l.take (i + 1)) : Nat) : Int) := by omega
     have hms : (mkd TLabel.mrk TLabel.ct k l (i + 1)).map TLabel.en = ((mkd TLabel.mrk TLabel.ct k l i).map TLabel.en).set ((i : Int)).toNat (TLabel.en (TLabel.mrk K x)) := by rw [mkd_succ hx, List.map_set, toNat_ix, hK]
     obtain ⟨A, hA⟩ : ∃ A, A = (mkd TLabel.mrk TLabel.ct k l i).map TLabel.en := ⟨_, rfl⟩
     rw [← hA] at hms
     have hAl : A.length = l.length := by rw [hA, List.length_map, mkd_len hi]
     have hix : ((i : Int)).toNat < A.length := by rw [toNat_ix]; omega
     have hself : A.set ((i : Int)).toNat (TLabel.en x) = A := by
      rw [toNat_ix]
      exact set_self_of (by rw [hA, List.getElem?_map, mkd_get hx]; rfl)
     have htA : ∀ r : List AV, decide ((i : Int) < ((A.set ((i : Int)).toNat r).length : Int)) = true := fun r => by rw [List.length_set]; simp; omega
     rw [← hA, ← hself]
     dsimp only [TLabel.en]
     repeat' ((first
      | (refine iAL ?_; first | refine AL.any ?_ | refine AL.any (h := POp.k Tryz.func82 (hc := markText _ (by omega) (by omega))) ?_ | refine AL.nil ?_)
      | (refine iAW ?_; first | (rw [hw0]) | (rw [hw1]) | (rw [hw2]) | (rw [hw3]) | (rw [hw4]) | (rw [hw5]) | (refine AW.c0 ?_; constructor) | (refine AW.cT ?_ (hb := htA _)) | (refine AW.cF ?_ (hb := htA _)) | refine AW.cT ?_ | refine AW.cF ?_ | (refine AW.c2 ?_ ?_ <;> (intro h; try simp only [bT, bF] at h)))
      | with_reducible refine ifP ?_
      | with_reducible refine ifN ?_) <;> (try dsimp only))
     all_goals (refine ⟨i + 1, [], hlt, by omega, ?_, ?_, ?_, ?_⟩; (focus ((refine wkj ?_; repeat' with_reducible constructor) <;> first | rfl | (rw [hend]) | (rw [hn]))); (focus (rw [hms] <;> rfl)); (focus ((repeat' (first | exact Fits.nil _ | refine Fits.cons ?_ ?_ | exact Fits.any _ | exact Fits.c _ _ | exact Fits.own (by rfl) | exact Fits.ref (by rfl) | exact Fits.clo (by assumption) | exact Fits.clo (clo_of (by rfl)) | exact Fits.clo (clo_fn _))))); (focus (exact fits_dcl (DCl.map (fun _ => rfl)))))
   · have e : i = l.length := by omega
     subst e
     have hml : (mkd TLabel.mrk TLabel.ct k l l.length).length = l.length := mkd_len (Nat.le_refl _)
     have ht : decide ((l.length : Int) < ((((mkd TLabel.mrk TLabel.ct k l l.length).map TLabel.en).length : Nat) : Int)) = false := by rw [List.length_map, hml]; simp
     rw [List.take_length]
     repeat' ((first
      | (refine iAL ?_; first | refine AL.any ?_ | refine AL.any (h := POp.k Tryz.func82 (hc := markText _ (by omega) (by omega))) ?_ | refine AL.nil ?_)
      | (refine iAW ?_; first | (refine AW.c0 ?_; constructor) | (refine AW.cT ?_ (hb := ht)) | (refine AW.cF ?_ (hb := ht)) | refine AW.cT ?_ | refine AW.cF ?_ | (refine AW.c2 ?_ ?_ <;> (intro h; try simp only [bT, bF] at h)))
      | with_reducible refine ifP ?_
      | with_reducible refine ifN ?_) <;> (try dsimp only))
     all_goals exact FinA.one rfl (RV.tmp (by rfl)) ⟨rfl, [], by rw [mkd_all] <;> rfl⟩

theorem heldLabelS (l : List TLabel) (k : Int) (h0 : 0 ≤ k) (hb : k + ((ctL TLabel.ct l : Nat) : Int) ≤ 4611686018427387904) : VCalls Tryz.prog 102 [.ro 6 ((mkL TLabel.mrk TLabel.ct k l).map TLabel.en), I k] (fun r M => r = I (k + ((ctL TLabel.ct l : Nat) : Int)) ∧ M = []) := by
 have hll := len_ctL TLabel.ct_pos l
 have hclo : Clo (.ro 6 ((mkL TLabel.mrk TLabel.ct k l).map TLabel.en)) := clo_list TLabel.clo_en
 refine VCalls.bodyE Tryz.func102 rfl 74 rfl (fun E hE => ?_)
 simp only [List.reduceReplicate, List.cons_append, List.nil_append]
 repeat' ((first
  | (refine iAL ?_; first | refine AL.any ?_ | refine AL.nil ?_)
  | (refine iAW ?_; first | (refine AW.c0 ?_; constructor) | (refine AW.loopD hE (fun i : Nat => (.ro 6 ((mkL TLabel.mrk TLabel.ct k l).map TLabel.en) :: I (k + ((ctL TLabel.ct (l.take i) : Nat) : Int)) :: .any :: .any :: .any :: I (i : Int) :: .any :: .any :: .any :: .any :: .any :: .any :: .any :: .any :: .any :: .any :: .any :: .any :: .any :: .any :: .any :: .any :: .any :: .any :: .any :: .any :: .any :: .any :: .any :: .any :: .any :: .any :: .any :: .any :: .any :: .any :: .any :: .any :: .any :: .any :: .any :: .any :: .any :: .any :: .any :: .any :: .any :: .any :: .any :: .any :: .any :: .any :: .any :: .any :: .any :: .any :: .any :: .any :: .any :: .any :: .any :: .any :: .any :: .any :: .any :: .any :: .any :: .any :: .any :: .any :: .any :: .any :: .any :: .any :: .any :: .any :: [])) (fun i => []) (fun i => l.length - i) (fun i => i ≤ l.length) 0 (Nat.zero_le _) ?_ rfl ?_))) <;> (try dsimp only))
 · (refine wkj ?_; repeat' with_reducible constructor) <;> first | rfl | (simp [ctL])
 · intro i hi
   by_cases hlt : i < l.length
   · obtain ⟨x, hx⟩ : ∃ x, l[i]? = some x := ⟨_, List.getElem?_eq_getElem hlt⟩
     have hn := next_ix hlt (by omega)
     obtain ⟨K, hK⟩ : ∃ K, K = k + ((ctL TLabel.ct (l.take i) : Nat) : Int) := ⟨_, rfl⟩
     rw [← hK]
     have hct := ctL_le (ct := TLabel.ct) hx
     have hcs := ctL_take (ct := TLabel.ct) hx
     have hgm := map_get (f := TLabel.en) (mkL_get (mk := TLabel.mrk) (ct := TLabel.ct) (k := k) hx)
     rw [← hK] at hgm
     dsimp only [TLabel.mrk, TLabel.en] at hgm
     have hcx : TLabel.ct x = 6 := rfl
     have hw0 : IntKind.i64.wrap (K + 1) = K + 1 := w64 (by omega) (by omega)
     have hw1 : IntKind.i64.wrap (K + 1 + 1) = K + 1 + 1 := w64 (by omega) (by omega)
     have hw2 : IntKind.i64.wrap (K + 1 + 1 + 1) = K + 1 + 1 + 1 := w64 (by omega) (by omega)
     have hw3 : IntKind.i64.wrap (K + 1 + 1 + 1 + 1) = K + 1 + 1 + 1 + 1 := w64 (by omega) (by omega)
     have hw4 : IntKind.i64.wrap (K + 1 + 1 + 1 + 1 + 1) = K + 1 + 1 + 1 + 1 + 1 := w64 (by omega) (by omega)
     have hw5 : IntKind.i64.wrap (K + 1 + 1 + 1 + 1 + 1 + 1) = K + 1 + 1 + 1 + 1 + 1 + 1 := w64 (by omega) (by omega)
     have hend : K + 1 + 1 + 1 + 1 + 1 + 1 = k + ((ctL TLabel.ct (l.take (i + 1)) : Nat) : Int) := by omega
     have ht : decide ((i : Int) < ((((mkL TLabel.mrk TLabel.ct k l).map TLabel.en).length : Nat) : Int)) = true := by rw [List.length_map, mkL_len]; simp; omega
     repeat' ((first
      | (refine iAL ?_; first | refine AL.any ?_ | refine AL.nil ?_)
      | ((with_reducible show DL ..); first | refine DL.any ?_ | refine DL.any (h := POp.k Tryz.func82 (hc := markText _ (by omega) (by omega))) ?_ | refine DL.nil ?_)
      | (refine iAW ?_; first | (rw [hw0]) | (rw [hw1]) | (rw [hw2]) | (rw [hw3]) | (rw [hw4]) | (rw [hw5]) | (refine AW.c0 ?_; constructor) | refine AW.dr (id := 7) 7 ?_ | refine AW.cT ?_ | refine AW.cF ?_ | (refine AW.c2 ?_ ?_ <;> (intro h; try simp only [bT, bF] at h)))
      | with_reducible refine ifP ?_
      | with_reducible refine ifN ?_) <;> (try dsimp only))
     all_goals (refine ⟨i + 1, [], hlt, by omega, ?_, rfl, ?_, ?_⟩; (focus ((refine wkj ?_; repeat' with_reducible constructor) <;> first | rfl | (rw [hend]) | (rw [hn]))); (focus ((repeat' (first | exact Fits.nil _ | refine Fits.cons ?_ ?_ | exact Fits.any _ | exact Fits.c _ _ | exact Fits.own (by rfl) | exact Fits.ref (by rfl) | exact Fits.clo (by assumption) | exact Fits.clo (clo_of (by rfl)) | exact Fits.clo (clo_fn _))))); (focus (exact FitsM.nil _)))
   · have e : i = l.length := by omega
     subst e
     have ht : decide ((l.length : Int) < ((((mkL TLabel.mrk TLabel.ct k l).map TLabel.en).length : Nat) : Int)) = false := by rw [List.length_map, mkL_len]; simp
     rw [List.take_length]
     repeat' ((first
      | (refine iAL ?_; first | refine AL.any ?_ | refine AL.nil ?_)
      | ((with_reducible show DL ..); first | refine DL.any ?_ | refine DL.any (h := POp.k Tryz.func82 (hc := markText _ (by omega) (by omega))) ?_ | refine DL.nil ?_)
      | (refine iAW ?_; first | (refine AW.c0 ?_; constructor) | refine AW.dr (id := 7) 7 ?_ | refine AW.cT ?_ | refine AW.cF ?_ | (refine AW.c2 ?_ ?_ <;> (intro h; try simp only [bT, bF] at h)))
      | with_reducible refine ifP ?_
      | with_reducible refine ifN ?_) <;> (try dsimp only))
     all_goals exact Fin.one rfl (RV.tmp (by rfl)) (clo_c _) ⟨rfl, rfl⟩

def TChart.eo (a : TChart) : List AV := [.own 0 0, .own 1 0]
def TChart.rw (a : TChart) : Mem := [some ⟨81, 5, 0, false, a.features.map TFeature.ed⟩, some ⟨174, 6, 0, false, a.labels.map TLabel.en⟩]
def TChart.cs (x : TChart) : Nat := ctL TFeature.ct x.features + ctL TLabel.ct x.labels
def TChart.ms (k : Int) (x : TChart) : TChart := ⟨mkL TFeature.mrk TFeature.ct (k) x.features, mkL TLabel.mrk TLabel.ct (k + ((ctL TFeature.ct x.features : Nat) : Int)) x.labels⟩
theorem markChart (x : TChart) (k : Int) (h0 : 0 ≤ k) (hb : k + ((x.cs : Nat) : Int) ≤ 4611686018427387904) : ACalls Tryz.prog 45 [.agg x.eo, I k] x.rw (fun r M => r = I (k + ((x.cs : Nat) : Int)) ∧ ∃ Mx, M = [(⟨81, 5, 0, false, (x.ms k).features.map TFeature.ed⟩ : Blk), (⟨174, 6, 0, false, (x.ms k).labels.map TLabel.en⟩ : Blk)].map some ++ Mx) := by
 have hcs : x.cs = ctL TFeature.ct x.features + ctL TLabel.ct x.labels := rfl
 have hend : k + ((ctL TFeature.ct x.features : Nat) : Int) + ((ctL TLabel.ct x.labels : Nat) : Int) = k + ((x.cs : Nat) : Int) := by omega
 refine ACalls.body Tryz.func45 rfl 12 rfl (fun E hE => ?_)
 dsimp only [TChart.eo, TChart.rw]
 simp only [List.reduceReplicate, List.cons_append, List.nil_append]
 repeat' ((first
  | (refine iAL ?_; first | refine AL.any ?_ | refine AL.any (h := POp.H [0] Tryz.func31 (hc := markFeatureS 81 x.features (k) (by omega) (by omega))) ?_ | refine AL.any (h := POp.H [1] Tryz.func100 (hc := markLabelS 174 x.labels (k + ((ctL TFeature.ct x.features : Nat) : Int)) (by omega) (by omega))) ?_ | refine AL.nil ?_)
  | (refine iAW ?_; (refine AW.c0 ?_; constructor))) <;> (try dsimp only))
 all_goals exact FinA.one rfl (RV.tmp (by rfl)) ⟨by rw [← hend], [_], rfl⟩

theorem heldChart (x : TChart) (k : Int) (h0 : 0 ≤ k) (hb : k + ((x.cs : Nat) : Int) ≤ 4611686018427387904) : VCalls Tryz.prog 46 [.agg (x.ms k).en, I k] (fun r M => r = I (k + ((x.cs : Nat) : Int)) ∧ M = []) := by
 have hcs : x.cs = ctL TFeature.ct x.features + ctL TLabel.ct x.labels := rfl
 have hend : k + ((ctL TFeature.ct x.features : Nat) : Int) + ((ctL TLabel.ct x.labels : Nat) : Int) = k + ((x.cs : Nat) : Int) := by omega
 have hnn0 : decide (k + ((ctL TFeature.ct x.features : Nat) : Int) < 0) = false := by simp; omega
 have hcr0 : Clo (.ro 5 ((mkL TFeature.mrk TFeature.ct (k) x.features).map TFeature.en)) := clo_list TFeature.clo_en
 have hnn1 : decide (k + ((ctL TFeature.ct x.features : Nat) : Int) + ((ctL TLabel.ct x.labels : Nat) : Int) < 0) = false := by simp; omega
 have hcr1 : Clo (.ro 6 ((mkL TLabel.mrk TLabel.ct (k + ((ctL TFeature.ct x.features : Nat) : Int)) x.labels).map TLabel.en)) := clo_list TLabel.clo_en
 refine VCalls.body Tryz.func46 rfl 16 rfl (fun E => ?_)
 dsimp only [TChart.en, TChart.ms]
 simp only [List.reduceReplicate, List.cons_append, List.nil_append]
 repeat' ((first
  | (refine iAL ?_; first | refine AL.any ?_ | refine AL.any (h := POp.k Tryz.func101 (hc := heldFeatureS x.features (k) (by omega) (by omega))) ?_ | refine AL.any (h := POp.k Tryz.func102 (hc := heldLabelS x.labels (k + ((ctL TFeature.ct x.features : Nat) : Int)) (by omega) (by omega))) ?_ | refine AL.nil ?_)
  | (refine iAW ?_; first | (refine AW.c0 ?_; constructor) | refine AW.cF ?_)) <;> (try dsimp only))
 all_goals exact Fin.one rfl (RV.tmp (by rfl)) (clo_c _) ⟨by rw [← hend], rfl⟩

def chtR (l : List TFeature) (v : TLevel) : TChart := if chtOk l v = true then chart l v else chart0
theorem chtR_t {l : List TFeature} {v : TLevel} (h : chtOk l v = true) : chtR l v = chart l v := by rw [chtR, if_pos h]
theorem chtR_f {l : List TFeature} {v : TLevel} (h : chtOk l v = false) : chtR l v = chart0 := by rw [chtR, if_neg (by rw [h]; decide)]
theorem chtR_gd {l : List TFeature} (hg : ∀ x ∈ l, x.gd) (v : TLevel) : ∀ x ∈ (chtR l v).features, x.gd := by
 unfold chtR
 split
 · exact chF_gd hg v
 · intro x hx; simp [chart0] at hx
theorem chtR_src {l : List TFeature} (v : TLevel) : isSource (chtR l v).features = true := by
 unfold chtR
 split
 · rename_i h
   exact chF_src (chtOk_t h).1 v
 · rfl
theorem View.tupC {M : Mem} {cs cs' : List AV} (h : VwL M cs cs') : View M (.tup cs) (.tup cs') := fun base w0 w Fx β Fc u hh hF hown hr => by
 cases hr with
 | tup hl h2 => exact .tup (by rw [hl, h.get.1]) (fun i x' u hx' hu => by
  have hil : i < cs.length := by have := (List.getElem?_eq_some_iff.1 hx').1; rw [← h.get.1]; exact this
  exact h.get.2 i _ x' (List.getElem?_eq_getElem hil) hx' base w0 w Fx β Fc u hh hF hown (h2 i _ u (List.getElem?_eq_getElem hil) hu))
theorem nil_chart : View [] (.tup [.agg [.c (.slice none 0 0), .c (.slice none 0 0)], B false]) (.tup [.agg chart0.en, B false]) :=
 View.tupC (VwL.cons (View.agg' (VwL.cons View.nil (VwL.cons View.nil VwL.nil))) (VwL.cons (View.same (clo_c _)) VwL.nil))

end Go.Proofs.YtpffahmmklpifaaGreat.Abs

/- The walks of ChartAt and AreNamesApart. -/
namespace Go.Proofs.YtpffahmmklpifaaGreat.Abs
open Go.Proofs Go.RowKit
set_option linter.unusedVariables false
set_option linter.unusedSimpArgs false
set_option maxRecDepth 100000
set_option maxHeartbeats 2000000
attribute [local irreducible] OpA AL AW DL DLM DLR DLS QOp POp VCalls VCallsI
attribute [local irreducible] chF plN srcOf
end Go.Proofs.YtpffahmmklpifaaGreat.Abs

/- The walks of ChartOf and ChartAt, what they make as rows of our own. -/
namespace Go.Proofs.YtpffahmmklpifaaGreat.Abs
open Go.Proofs Go.RowKit
set_option linter.unusedVariables false
set_option linter.unusedSimpArgs false
set_option maxRecDepth 100000
set_option maxHeartbeats 2000000
attribute [local irreducible] OpA AL AW DL DLM DLR DLS QOp POp VCalls VCallsI
section
attribute [local semireducible] OpA AL AW DL DLM DLR DLS QOp POp VCalls VCallsI
section
variable {P : Program} {E : Env} {tm : List AV} {M : Mem} {w w0 : World} {Fx : Nat → Prop} {β : List Hd} {base : Nat} {G : List (Option Nat)}
theorem CellsD.put {pv : Nat → Prop} {hb : Option Nat} {sz : Nat} {es : List (List AV)} {xs : List Value} (h : CellsD w Fx β G pv hb sz es xs) {i j : Nat} {r : List AV} {y0 y : AV} (hr : es[i]? = some r) (hj : r[j]? = some y0)
 (hy : ∀ u, CRep w Fx β G y0 u → CRep w Fx β G y u) (hn : ∀ d, y ≠ .dp d) : CellsD w Fx β G pv hb sz (es.set i (r.set j y)) xs := by
 obtain ⟨h1, h2, pc, h3, h4, h5⟩ := h
 refine ⟨by rw [h1, List.length_set], fun i' r' hr' => ?_, pc, h3, h4, fun i' r' j' d' hr' hd => ?_⟩
 · rcases set_get hr' with ⟨rfl, rfl, _⟩ | ⟨_, hr0⟩
   · refine ⟨by rw [List.length_set]; exact (h2 _ r hr).1, fun j' x hx => ?_⟩
     rcases set_get hx with ⟨rfl, rfl, _⟩ | ⟨_, hx0⟩
     · obtain ⟨u, hu, ho, hR⟩ := (h2 _ r hr).2 _ y0 hj
       exact ⟨u, hu, ho, hy u hR⟩
     · exact (h2 _ r hr).2 _ x hx0
   · exact h2 i' r' hr0
 · rcases set_get hr' with ⟨rfl, rfl, _⟩ | ⟨_, hr0⟩
   · rcases set_get hd with ⟨rfl, e, _⟩ | ⟨_, hd0⟩
     · exact absurd e.symm (hn _)
     · exact h5 _ r j' d' hr hd0
   · exact h5 i' r' j' d' hr0 hd
theorem Gh.own {q i j sz2 : Nat} {ty2 : TypeId} {b : Blk} {r : List AV} (ho : M[q]? = some (some b)) (hr : b.es[i]? = some r) (hc : r[j]? = some (.c (.slice none 0 0))) :
 Gh M ((M ++ [some (⟨ty2, sz2, 0, false, []⟩ : Blk)]).set q (some { b with es := b.es.set i (r.set j (.own M.length 0)) })) := by
 intro base w0 w Fx β hh
 obtain ⟨h1, hn⟩ := hh.addRow (t := ty2) (sz := sz2) (es := []) (xs := []) (v := .slice none 0 0) ⟨rfl, rfl, rfl, Nat.le_refl _, fun _ _ _ => rfl⟩ ⟨by simp, .inl ⟨rfl, rfl⟩⟩ (fun k hk => by simp [blockOf] at hk) ⟨by simp, fun i r hr => by simp at hr⟩
 have hown : Rep w Fx (β ++ [Hd.flat (.slice none 0 0)]) (gens (M ++ [some ⟨ty2, sz2, 0, false, []⟩])) (.own M.length 0) (.slice none 0 0) := .own rfl (by simp [gens_length]) (fun _ _ => Nat.zero_le _) (fun _ => ⟨Hd.flat (.slice none 0 0), by simp [← hh.len], rfl⟩)
 have hq : (M ++ [some (⟨ty2, sz2, 0, false, []⟩ : Blk)])[q]? = some (some b) := by rw [List.getElem?_append_left (List.getElem?_eq_some_iff.1 ho).1]; exact ho
 have hown2 := hn.own
 have hmv := hn.mv
 clear hn
 revert h1 hown hq hown2 hmv
 generalize M ++ [some (⟨ty2, sz2, 0, false, []⟩ : Blk)] = M1
 generalize β ++ [Hd.flat (.slice none 0 0)] = β1
 generalize M.length = n
 intro h1 hown hq hown2 hmv
 obtain ⟨vo, hvo, hoko⟩ := h1.blk q _ hq
 have hG : gens (M1.set q (some { b with es := b.es.set i (r.set j (.own n 0)) })) = gens M1 := gens_set hq rfl
 have up : ∀ {p : Nat} {b1 : Blk}, (M1.set q (some { b with es := b.es.set i (r.set j (.own n 0)) }))[p]? = some (some b1) → (p = q ∧ b1 = { b with es := b.es.set i (r.set j (.own n 0)) }) ∨ (p ≠ q ∧ M1[p]? = some (some b1)) := fun {p b1} h => by
  rcases set_get h with ⟨e, e2, _⟩ | h
  · exact .inl ⟨e, Option.some.inj e2⟩
  · exact .inr h
 have old : ∀ {p : Nat} {b1 : Blk}, (M1.set q (some { b with es := b.es.set i (r.set j (.own n 0)) }))[p]? = some (some b1) → ∃ b0, M1[p]? = some (some b0) := fun h => by
  rcases up h with ⟨rfl, _⟩ | ⟨_, h⟩
  · exact ⟨_, hq⟩
  · exact ⟨_, h⟩
 refine ⟨β1, ⟨h1.bel, h1.bs, h1.fx, by rw [List.length_set]; exact h1.len, fun p b1 hp => ?_, fun p1 p2 b1 b2 v1 v2 k hne2 h1' h2 hv1 hv2 hk1 hk2 => ?_⟩, by rw [hG]; exact hmv, fun p b1 v k hp hv hk => ?_⟩
 · rw [hG]
   rcases up hp with ⟨rfl, rfl⟩ | ⟨n2, h2⟩
   · obtain ⟨xs, hcd, mk⟩ := hoko.open
     refine ⟨vo, hvo, mk _ vo _ _ rfl rfl rfl rfl (by simp) hoko.1 (hcd.put hr hc (fun u hu => ?_) (fun d h => by cases h))⟩
     obtain rfl := (hu rfl).c_inv
     exact fun _ => hown
   · exact h1.blk p b1 h2
 · obtain ⟨c1, a1⟩ := old h1'
   obtain ⟨c2, a2⟩ := old h2
   exact h1.inj p1 p2 c1 c2 v1 v2 k hne2 a1 a2 hv1 hv2 hk1 hk2
 · obtain ⟨c1, a1⟩ := old hp
   rcases hown2 p c1 v k a1 hv hk with h | h
   · obtain ⟨v3, hv3, hok⟩ := h1.blk p c1 a1
     rw [hv] at hv3
     obtain rfl := Option.some.inj hv3
     have := (hok.1 k hk).2.1
     omega
   · exact h
theorem AW.adoptCell {Qx : XPost} {b : Blk} {r : List AV} {M2 : Mem} (q i j : Nat) (ty2 : TypeId) (sz2 : Nat) (ho : M[q]? = some (some b)) (hr : b.es[i]? = some r) (hc : r[j]? = some (.c (.slice none 0 0))) (em : (M ++ [some (⟨ty2, sz2, 0, false, []⟩ : Blk)]).set q (some { b with es := b.es.set i (r.set j (.own M.length 0)) }) = M2)
 (h : AW P .ret E tm M2 Qx) : AW P .ret E tm M Qx := AW.gh (em ▸ Gh.own ho hr hc) h
end
end
attribute [local irreducible] shown chs plN shAll chsTo has
theorem chart_o (l : List TFeature) (v : TLevel) (hS : isSource l = true) (hg0 : ∀ x ∈ l, x.gd) (hV : isLevel v = true) : VCalls Tryz.prog 74 [.ro 5 (l.map TFeature.en), .agg v.en] (fun r M => r = .tup [.agg [.own 0 0, .own 1 0], B true] ∧ M = [some ⟨81, 5, 0, false, (chart l v).features.map TFeature.ed⟩, some ⟨174, 6, 0, false, (chart l v).labels.map TLabel.en⟩]) := by
 refine VB Tryz.func74 44 (fun E hE => ?_)
 have hclo : Clo (.ro 5 (l.map TFeature.en)) := clo_list TFeature.clo_en
 have hsl := src_len hS
 have hl1 : l.length ≤ 1048576 := by omega
 have hsh := shown_le hS v
 have hclI : Clo (.ro 1 ((shown l v).map enI)) := clo_list clo_enI
 have hclL : Clo (.agg v.en) := Clo.agg v.clo_en
 have hS2 := chs_src hS v
 have hg2 := chs_gd hg0 v
 have hS3 := chF_src hS v
 have hg3 := chF_gd hg0 v
 have hcl2 : Clo (.ro 5 ((chs l v).map TFeature.en)) := clo_list TFeature.clo_en
 have hc2l : (chs l v).length ≤ 1048576 := by have := src_len hS2; omega
 dsimp only [TLevel.en]
 repeat' ((first
  | (refine iAL ?_; first | refine AL.any ?_ | refine AL.any (h := POp.k Tryz.func80 (hc := isSrcT_i l (by omega) hg0 hS)) ?_ | refine AL.any (h := POp.k Tryz.func140 (hc := shown_i' l v hS hg0 hV)) ?_ | refine AL.any (h := POp.k Tryz.func141 (hc := has_i (shown l v) x.id (by omega))) ?_ | refine AL.any (h := POp.O Tryz.func142 (hc := shAll_o (chs l v) v.least hc2l hg2)) ?_ | refine AL.any (h := POp.O Tryz.func143 (hc := pln_i (chF l v) hS3 hg3)) ?_ | refine AL.T ?_ | refine AL.T (h := POp.k Tryz.func139 (hc := isLevT_i v hV)) ?_ | refine AL.nil ?_)
  | (refine iAW ?_; first | (refine AW.freeze /-Ret-/ (t := 7) (id := 2) (b := ⟨81, 5, (chs l v).length, false, (chs l v).map TFeature.en⟩) rfl rfl rfl rfl (clo_rows TFeature.clo_en) ?_; try dsimp only [dput, List.set, cond_true, cond_false, Nat.zero_add, Nat.add_zero, Nat.reduceAdd, splice, List.take, List.drop, List.length, List.nil_append, List.cons_append, List.append, TPoint.en, TSegment.en, TBox.en, TFeature.en, TMeet.en, TPlace.en, TCover.en, TLabel.en, TPiece.en, TLevel.en, TChart.en, TReason.en, TEdit.en, TEntry.en, TEdition.en, TListing.en, TAtlas.en, TEvent.en, TWindow.en]) | (refine AW.c0 ?_; constructor) | refine AW.cT ?_ | refine AW.cF ?_)
  | (
 refine AW.loopD hE (fun i : Nat => [.any, .any, .any, .ref 0 0 3 0 0, .ref 1 0 2 0 0, .any, .ro 1 ((shown l v).map enI), .own 2 (chsTo l v i).length, .any, .any, .any, .any, .any, .any, .any, .any, .any, .any, .any, .any, .any, .any, .any, .ro 5 (l.map TFeature.en), I ((l.map TFeature.en).length : Int), I (i : Int), .any, .any, .any, .any, .any, .any, .any, .any, .any, .any, .any, .any, .any, .any, .any, .any, .any, .any, .any, .any]) (fun i => [some ⟨47, 3, 0, true, [v.en]⟩, some ⟨65, 2, 0, true, [[.c (.slice none 0 0), .c (.slice none 0 0)]]⟩, some ⟨81, 5, (chsTo l v i).length, false, (chsTo l v i).map TFeature.en⟩]) (fun i => l.length - i) (fun i => i ≤ l.length) 0 (by simp) ?_ (by first | rfl | ((simp [chsTo, TLevel.en]))) ?_
 (focus ((refine wkj ?_; repeat' with_reducible constructor) <;> first | rfl | (first | rfl | (simp [chsTo]))))
 intro i hi
 by_cases hlt : i < l.length
 case' pos =>
  have hP := True.intro
  obtain ⟨x, hx⟩ : ∃ x, l[i]? = some x := ⟨_, List.getElem?_eq_getElem hlt⟩
  have hg := map_get (f := TFeature.en) hx
  have ht := lt_true (f := TFeature.en) hlt
  have hn := next_ix hlt (by omega)
  have hgx := hg0 x (List.mem_of_getElem? hx)
  have hsx : x.sm := hgx.1
  have hcle : Clo (.agg x.en) := Clo.agg x.clo_en
  have hclP : Clo (.ro 2 (x.points.map TPoint.en)) := clo_list TPoint.clo_en
  have hln := chsTo_len l v i
  rcases Bool.eq_false_or_eq_true (has (shown l v) x.id) with hk | hk
  case' inl => obtain ⟨hm, hm2⟩ := chsTo_y hx hk
  case' inr => obtain ⟨hm, hm2⟩ := chsTo_n hx hk
 case' neg =>
  have hQ := True.intro
  have ht := lt_false (f := TFeature.en) hlt
  have e : i = l.length := by omega
  subst e
  try rw [List.take_length]
  rw [chsTo_all])) <;> (try dsimp only))
 all_goals first
  | (have _ := hP; (refine ⟨i + 1, _, hlt, by omega, ?_, by rw [hm, hm2] <;> rfl, ?_, ?_⟩; (focus (exact wkH)); (focus (exact fitsA)); (focus (exact fitsM_cons (clo_one v.clo_en) (fitsM_cons (clo_rows_b rfl) (fitsM_cons (clo_rows TFeature.clo_en) (FitsM.nil _)))))))
  | (have _ := hQ; exact Fin.r2 [3, 4] rfl (RV.cell (QOp.quietA TT_ok (by rfl))) (RV.tmp (by rfl)) ⟨rfl, rfl⟩)

theorem chart0_o (l : List TFeature) (v : TLevel) (hl : l.length ≤ 1048576) (hg0 : ∀ x ∈ l, x.gd) (hK : chtOk l v = false) : VCalls Tryz.prog 74 [.ro 5 (l.map TFeature.en), .agg v.en] (fun r M => r = .tup [.agg [.own 0 0, .own 1 0], B false] ∧ M = [some ⟨81, 5, 0, false, chart0.features.map TFeature.ed⟩, some ⟨174, 6, 0, false, chart0.labels.map TLabel.en⟩]) := by
 refine VB Tryz.func74 44 (fun E hE => ?_)
 have hclo : Clo (.ro 5 (l.map TFeature.en)) := clo_list TFeature.clo_en
 have hclL : Clo (.agg v.en) := Clo.agg v.clo_en
 dsimp only [TLevel.en]
 rcases Bool.eq_false_or_eq_true (isSource l) with hS | hS
 case' inl => have hV : isLevel v = false := by rw [chtOk, hS] at hK; exact hK
 repeat' ((first
  | (refine iAL ?_; first | refine AL.any ?_ | refine AL.any (h := POp.k Tryz.func80 (hc := isSource_i l hl hg0)) ?_ | refine AL.F ?_ | refine AL.T ?_ | refine AL.T (h := POp.k Tryz.func139 (hc := isLevel_i v)) ?_ | refine AL.nil ?_)
  | (refine iAW ?_; first | (refine AW.adoptCell 1 0 0 81 5 rfl rfl rfl (by exact nrm) ?_) | (refine AW.adoptCell 1 0 1 174 6 rfl rfl rfl (by exact nrm) ?_) | (refine AW.c0 ?_; constructor) | refine AW.cT ?_)) <;> (try dsimp only))
 all_goals exact Fin.r2 [2, 3] rfl (RV.cell (QOp.quietA TT_ok (by rfl))) (RV.tmp (by rfl)) ⟨rfl, rfl⟩

theorem chtR_o (l : List TFeature) (v : TLevel) (hl : l.length ≤ 1048576) (hg0 : ∀ x ∈ l, x.gd) : VCalls Tryz.prog 74 [.ro 5 (l.map TFeature.en), .agg v.en] (fun r M => r = .tup [.agg [.own 0 0, .own 1 0], B (chtOk l v)] ∧ M = [some ⟨81, 5, 0, false, (chtR l v).features.map TFeature.ed⟩, some ⟨174, 6, 0, false, (chtR l v).labels.map TLabel.en⟩]) := by
 cases hK : chtOk l v
 · rw [chtR_f hK]
   exact chart0_o l v hl hg0 hK
 · rw [chtR_t hK]
   exact chart_o l v (chtOk_t hK).1 hg0 (chtOk_t hK).2
end Go.Proofs.YtpffahmmklpifaaGreat.Abs

/- The walks of ChartAt for any level, and with rows of our own. -/
namespace Go.Proofs.YtpffahmmklpifaaGreat.Abs
open Go.Proofs Go.RowKit
set_option linter.unusedVariables false
set_option linter.unusedSimpArgs false
set_option maxRecDepth 100000
set_option maxHeartbeats 2000000
attribute [local irreducible] OpA AL AW DL DLM DLR DLS QOp POp VCalls VCallsI
attribute [local irreducible] srcOf chtR
section
attribute [local semireducible] OpA AL AW DL DLM DLR DLS QOp POp VCalls VCallsI
theorem View.tup' {M : Mem} {cs cs' : List AV} (h : VwL M cs cs') : View M (.tup cs) (.tup cs') := fun base w0 w Fx β Fc u hh hF hown hr => by
 have hl := h.get.1
 cases hr with
 | tup hl2 h3 => exact .tup (by rw [hl2, hl]) (fun i x' u hx hu => by
  have hlt : i < cs.length := by rw [← hl]; exact (List.getElem?_eq_some_iff.1 hx).1
  exact h.get.2 i _ x' (List.getElem?_eq_getElem hlt) hx _ _ _ _ _ _ _ hh hF hown (h3 i _ u (List.getElem?_eq_getElem hlt) hu))
end
def lvAt (a : TAtlas) (k : Int) : Option TLevel := if k < 0 then none else a.levels[k.toNat]?
def chA (a : TAtlas) (l : List TFeature) (k : Int) : TChart := match lvAt a k with
 | some v => chtR l v
 | none => chart0
def chAk (a : TAtlas) (l : List TFeature) (k : Int) : Bool := match lvAt a k with
 | some v => chtOk l v
 | none => false
theorem lvAt_cases (a : TAtlas) (k : Int) (hvl : a.levels.length ≤ 1048576) : (∃ v, lvAt a k = some v ∧ (a.levels.map TLevel.en)[k.toNat]? = some v.en ∧ 0 ≤ k ∧ decide (k < 0) = false ∧ decide (k ≥ ((a.levels.map TLevel.en).length : Int)) = false ∧ inr k 0 (IntKind.i64.wrap (((a.levels.map TLevel.en).length : Int) - 1)) = true) ∨
 (lvAt a k = none ∧ inr k 0 (IntKind.i64.wrap (((a.levels.map TLevel.en).length : Int) - 1)) = false ∧ (decide (k < 0) = true ∨ (decide (k < 0) = false ∧ decide (k ≥ ((a.levels.map TLevel.en).length : Int)) = true))) := by
 rw [List.length_map, w64 (by omega) (by omega)]
 by_cases h0 : k < 0
 · refine .inr ⟨by rw [lvAt, if_pos h0], by simp [inr]; omega, .inl (by simp [h0])⟩
 · by_cases h1 : k.toNat < a.levels.length
   · have hg : a.levels[k.toNat]? = some a.levels[k.toNat] := List.getElem?_eq_getElem h1
     exact .inl ⟨a.levels[k.toNat], by rw [lvAt, if_neg h0, hg], by rw [List.getElem?_map, hg]; rfl, by omega, by simp; omega, by simp; omega, by simp [inr]; omega⟩
   · exact .inr ⟨by rw [lvAt, if_neg h0, List.getElem?_eq_none (by omega)], by simp [inr]; omega, .inr ⟨by simp; omega, by simp; omega⟩⟩
theorem chA_t {a : TAtlas} {l : List TFeature} {k : Int} {v : TLevel} (h : lvAt a k = some v) : chA a l k = chtR l v ∧ chAk a l k = chtOk l v := by rw [chA, chAk, h]; exact ⟨rfl, rfl⟩
theorem chA_f {a : TAtlas} {l : List TFeature} {k : Int} (h : lvAt a k = none) : chA a l k = chart0 ∧ chAk a l k = false := by rw [chA, chAk, h]; exact ⟨rfl, rfl⟩
theorem chtR_s (l : List TFeature) (v : TLevel) (hl : l.length ≤ 1048576) (hg0 : ∀ x ∈ l, x.gd) : VCalls Tryz.prog 71 [.ro 5 (l.map TFeature.en), .agg v.en] (fun r M => r = .tup [.agg (chtR l v).en, B (chtOk l v)] ∧ M = []) := by
 cases hK : chtOk l v
 · rw [chtR_f hK]
   exact VCalls.frz (chart0_s l v hl hg0 hK) (VwL.cons nil_chart VwL.nil)
 · rw [chtR_t hK]
   exact chart_s l v (chtOk_t hK).1 hg0 (chtOk_t hK).2
theorem chAt_o (a : TAtlas) (k : Int) (hgd : a.gd) : VCalls Tryz.prog 42 [.agg a.en, I k] (fun r M => r = .tup [.agg [.own 0 0, .own 1 0], B (chAk a (srcOf a.log) k)] ∧ M = [some ⟨81, 5, 0, false, (chA a (srcOf a.log) k).features.map TFeature.ed⟩, some ⟨174, 6, 0, false, (chA a (srcOf a.log) k).labels.map TLabel.en⟩]) := by
 refine VB Tryz.func42 25 (fun E hE => ?_)
 have hclG : Clo (.ro 8 (a.log.map TEntry.en)) := clo_list TEntry.clo_en
 have hclV : Clo (.ro 3 (a.levels.map TLevel.en)) := clo_list TLevel.clo_en
 have hclE : Clo (.ro 3 (a.editions.map TEdition.en)) := clo_list TEdition.clo_en
 have hcla : Clo (.agg a.en) := Clo.agg a.clo_en
 have hvl : a.levels.length ≤ 1048576 := hgd.2.1
 have hLl := srcOf_len hgd.1.1
 have hLg : ∀ x ∈ (srcOf a.log), x.gd := srcOf_mem hgd.1.2
 have hclS : Clo (.ro 5 ((srcOf a.log).map TFeature.en)) := clo_list TFeature.clo_en
 rcases lvAt_cases a k hvl with ⟨v, hl0, hgv, hk0, hkn, hkl, hkr⟩ | ⟨hl0, hkr, hkc⟩
 case' inl =>
  have hclv : Clo (.agg v.en) := Clo.agg v.clo_en
  have hcc : Clo (.agg (chtR (srcOf a.log) v).en) := Clo.agg (TChart.clo_en _)
  have hct : Clo (.tup [.agg (chtR (srcOf a.log) v).en, B (chtOk (srcOf a.log) v)]) := Clo.tup (clo_cons hcc (clo_cons (clo_c _) clo_nil))
  obtain ⟨hra, hrb⟩ := chA_t (l := (srcOf a.log)) hl0
 case' inr => obtain ⟨hra, hrb⟩ := chA_f (l := (srcOf a.log)) hl0
 case' inr => rcases hkc with hkc | ⟨hkc, hkc2⟩
 all_goals rw [hra, hrb]
 all_goals dsimp only [TAtlas.en]
 repeat' ((first
  | (refine iAL ?_; first | refine AL.any ?_ | refine AL.F ?_ | refine AL.T ?_ | refine AL.nil ?_)
  | ((with_reducible show DLS ..); first | refine DLS.bef ?_ | refine DLS.any ?_ | refine DLS.bef (h := POp.k Tryz.func60 (hc := src_i' a.log hgd.1.1 hgd.1.2)) ?_ | refine DLS.st (h := POp.O Tryz.func74 (hc := chtR_o (srcOf a.log) v hLl hLg)) ?_ | refine DLS.nil ?_)
  | (refine iAW ?_; first | (refine AW.adoptCell 1 0 0 81 5 rfl rfl rfl (by exact nrm) ?_) | (refine AW.adoptCell 1 0 1 174 6 rfl rfl rfl (by exact nrm) ?_) | (refine AW.c0 ?_; constructor) | (refine' AW.drS (id := 3) 11 8 255 _ ?_) | refine AW.cT ?_ | refine AW.cF ?_)) <;> (try dsimp only))
 all_goals exact Fin.r2 [2, 3] rfl (RV.cell (QOp.quietA TT_ok (by rfl))) (RV.tmp (by rfl)) ⟨rfl, rfl⟩

theorem chAt_i' (a : TAtlas) (k : Int) (hgd : a.gd) : VCalls Tryz.prog 42 [.agg a.en, I k] (fun r M => r = .tup [.agg (chA a (srcOf a.log) k).en, B (chAk a (srcOf a.log) k)] ∧ M = []) := VCalls.frz (chAt_o a k hgd) (by exact VwL.cons (View.tup' vwlT) VwL.nil)
theorem chAt_s1 (a : TAtlas) (k : Int) (hgd : a.gd) (v : TLevel) (hl0 : lvAt a k = some v) : VCalls Tryz.prog 41 [.agg a.en, I k] (fun r M => r = .tup [.agg (chtR (srcOf a.log) v).en, B (chtOk (srcOf a.log) v)] ∧ M = []) := by
 refine VB Tryz.func41 23 (fun E hE => ?_)
 have hclG : Clo (.ro 8 (a.log.map TEntry.en)) := clo_list TEntry.clo_en
 have hclV : Clo (.ro 3 (a.levels.map TLevel.en)) := clo_list TLevel.clo_en
 have hclE : Clo (.ro 3 (a.editions.map TEdition.en)) := clo_list TEdition.clo_en
 have hcla : Clo (.agg a.en) := Clo.agg a.clo_en
 have hvl : a.levels.length ≤ 1048576 := hgd.2.1
 have hLl := srcOf_len hgd.1.1
 have hLg : ∀ x ∈ (srcOf a.log), x.gd := srcOf_mem hgd.1.2
 have hclS : Clo (.ro 5 ((srcOf a.log).map TFeature.en)) := clo_list TFeature.clo_en
 rcases lvAt_cases a k hvl with ⟨v', hl1, hgv, hk0, hkn, hkl, hkr⟩ | ⟨hl1, _⟩
 case' inr => exact absurd (hl0.symm.trans hl1) (by simp)
 obtain rfl := Option.some.inj (hl0.symm.trans hl1)
 have hclv : Clo (.agg v.en) := Clo.agg v.clo_en
 have hcc : Clo (.agg (chtR (srcOf a.log) v).en) := Clo.agg (TChart.clo_en _)
 have hct : Clo (.tup [.agg (chtR (srcOf a.log) v).en, B (chtOk (srcOf a.log) v)]) := Clo.tup (clo_cons hcc (clo_cons (clo_c _) clo_nil))
 obtain ⟨hra, hrb⟩ := chA_t (l := (srcOf a.log)) hl0
 dsimp only [TAtlas.en]
 repeat' ((first
  | (refine iAL ?_; first | refine AL.any ?_ | refine AL.any (h := POp.k Tryz.func96 (hc := inr_s _ _ _)) ?_ | refine AL.nil ?_)
  | ((with_reducible show DL ..); first | refine DL.any ?_ | refine DL.any (h := POp.k Tryz.func52 (hc := src_s' a.log hgd.1.1 hgd.1.2)) ?_ | refine DL.any (h := POp.k Tryz.func71 (hc := chtR_s (srcOf a.log) v hLl hLg)) ?_ | refine DL.nil ?_)
  | (refine iAW ?_; first | (refine AW.c0 ?_; constructor) | refine AW.dr (id := 3) 11 ?_ | refine AW.cF ?_)) <;> (try dsimp only))
 all_goals exact Fin.two rfl (RV.cell (QOp.quietA TT_ok (by rfl))) (RV.tmp (by rfl)) hct ⟨rfl, rfl⟩

theorem chAt_s0 (a : TAtlas) (k : Int) (hgd : a.gd) (hl0 : lvAt a k = none) : VCalls Tryz.prog 41 [.agg a.en, I k] (fun r M => r = .tup [.agg [.c (.slice none 0 0), .c (.slice none 0 0)], B false] ∧ M = []) := by
 refine VB Tryz.func41 23 (fun E hE => ?_)
 have hclG : Clo (.ro 8 (a.log.map TEntry.en)) := clo_list TEntry.clo_en
 have hclV : Clo (.ro 3 (a.levels.map TLevel.en)) := clo_list TLevel.clo_en
 have hclE : Clo (.ro 3 (a.editions.map TEdition.en)) := clo_list TEdition.clo_en
 have hcla : Clo (.agg a.en) := Clo.agg a.clo_en
 have hvl : a.levels.length ≤ 1048576 := hgd.2.1
 have hLl := srcOf_len hgd.1.1
 have hLg : ∀ x ∈ (srcOf a.log), x.gd := srcOf_mem hgd.1.2
 have hclS : Clo (.ro 5 ((srcOf a.log).map TFeature.en)) := clo_list TFeature.clo_en
 rcases lvAt_cases a k hvl with ⟨v', hl1, _⟩ | ⟨hl1, hkr, hkc⟩
 case' inl => exact absurd (hl0.symm.trans hl1) (by simp)
 dsimp only [TAtlas.en]
 repeat' ((first
  | (refine iAL ?_; first | refine AL.any ?_ | refine AL.any (h := POp.k Tryz.func96 (hc := inr_s _ _ _)) ?_ | refine AL.nil ?_)
  | (refine iAW ?_; first | (refine AW.c0 ?_; constructor) | refine AW.cT ?_)) <;> (try dsimp only))
 all_goals exact Fin.two rfl (RV.cell (QOp.quietA TT_ok (by rfl))) (RV.tmp (by rfl)) (clo_of (by rfl)) ⟨rfl, rfl⟩

theorem chAt_s' (a : TAtlas) (k : Int) (hgd : a.gd) : VCalls Tryz.prog 41 [.agg a.en, I k] (fun r M => r = .tup [.agg (chA a (srcOf a.log) k).en, B (chAk a (srcOf a.log) k)] ∧ M = []) := by
 cases hl0 : lvAt a k with
 | none =>
  obtain ⟨hra, hrb⟩ := chA_f (l := (srcOf a.log)) hl0
  rw [hra, hrb]
  exact VCalls.frz (chAt_s0 a k hgd hl0) (VwL.cons nil_chart VwL.nil)
 | some v =>
  obtain ⟨hra, hrb⟩ := chA_t (l := (srcOf a.log)) hl0
  rw [hra, hrb]
  exact chAt_s1 a k hgd v hl0
end Go.Proofs.YtpffahmmklpifaaGreat.Abs

/- Bounds of the marks of atlases and charts. -/
namespace Go.Proofs.YtpffahmmklpifaaGreat.Abs
open Go.Proofs Go.RowKit
set_option linter.unusedVariables false
set_option linter.unusedSimpArgs false
set_option maxRecDepth 100000
set_option maxHeartbeats 2000000
attribute [local irreducible] OpA AL AW DL DLM DLR DLS QOp POp VCalls VCallsI
theorem ctL_en {l : List TEntry} (hl : l.length ≤ 1048576) (hp : ∀ x ∈ l, x.feature.points.length ≤ 1048576) : ctL TEntry.ct l ≤ 2199030595584 := by
 have h := ctL_bd (ct := TEntry.ct) (c := 2097159) (l := l) fun x hx => by
  have h1 := ctL_pt x.feature.points
  have h2 := hp x hx
  unfold TEntry.ct
  omega
 omega
theorem ctL_lv (l : List TLevel) : ctL TLevel.ct l ≤ l.length * 3 := ctL_bd fun _ _ => Nat.le_refl 3
theorem ctL_ed {l : List TEdition} (hl : l.length ≤ 1048576) (hp : ∀ e ∈ l, e.source.length ≤ 1048576 ∧ ∀ x ∈ e.source, x.points.length ≤ 1048576) : ctL TEdition.ct l ≤ 2305847407260205056 + 2097152 := by
 have h := ctL_bd (ct := TEdition.ct) (c := 2199027449858) (l := l) fun x hx => by
  have h2 := hp x hx
  have h1 := ctL_ft h2.1 h2.2
  unfold TEdition.ct
  omega
 omega
theorem TAtlas.cs_le {a : TAtlas} (h : a.sm) : a.cs ≤ 3000000000000000000 := by
 obtain ⟨⟨h1, h2⟩, h3, h4, h5⟩ := h
 have e1 := ctL_en h1 (fun x hx => h2 x hx)
 have e2 := ctL_lv a.levels
 have e3 := ctL_ed h4 (fun x hx => ⟨(h5 x hx).1, fun y hy => (h5 x hx).2 y hy⟩)
 unfold TAtlas.cs
 omega

theorem toAtlas_oX (a : TAtlas) (hs : a.sm) : VCalls Tryz.prog 14 [.agg [.ro 8 (a.log.map TEntry.en), .ro 3 (a.levels.map TLevel.en), .ro 3 (a.editions.map TEdition.en), I a.cover.w, I a.cover.h, S a.cover.cells, I a.now]] (fun r M => r = .agg [.own 0 0, .own 1 0, .own 2 0, I a.cover.w, I a.cover.h, S a.cover.cells, I a.now] ∧ M = [some ⟨135, 8, 0, false, a.log.map TEntry.ed⟩, some ⟨47, 3, 0, false, a.levels.map TLevel.en⟩, some ⟨151, 3, 0, false, a.editions.map TEdition.ed⟩]) := toAtlas_o a hs
theorem ctL_lb (l : List TLabel) : ctL TLabel.ct l ≤ l.length * 6 := ctL_bd fun _ _ => Nat.le_refl 6
theorem TChart.cs_le {x : TChart} (h : x.sm) : x.cs ≤ 2305843009213693952 := by
 have e1 := ctL_ft h.1.1 (fun y hy => h.1.2 y hy)
 have e2 := ctL_lb x.labels
 have e3 := h.2
 unfold TChart.cs
 omega
theorem chtR_sm {l : List TFeature} (hg : ∀ x ∈ l, x.gd) (v : TLevel) : (chtR l v).sm := by
 have h1 := src_len (chtR_src (l := l) v)
 refine ⟨⟨by omega, fun y hy => (chtR_gd hg v y hy).1⟩, ?_⟩
 unfold chtR
 split
 · rename_i h
   have := plN_len (chF_src (chtOk_t h).1 v) (chF_gd hg v)
   show (plN (chF l v)).length ≤ _
   omega
 · simp [chart0]
theorem chA_sm {a : TAtlas} {l : List TFeature} (hg : ∀ x ∈ l, x.gd) (k : Int) : (chA a l k).sm := by
 unfold chA
 split
 · exact chtR_sm hg _
 · exact ⟨⟨by simp [chart0], by simp [chart0]⟩, by simp [chart0]⟩
theorem law_FnExactChartAt (a : TAtlas) (k : Int) (h0 : a.ok) (h1 : i64 k) : VCalls Tryz.prog 10 [.agg a.en, I k] (fun r M => r = B true ∧ M = []) := by
 refine VB Tryz.func10 99 (fun E hE => ?_)
 have hclo_a : Clo (.agg a.en) := Clo.agg a.clo_en
 rcases Szs.split (TAtlas.szs) a 1048576 h0 (by decide) (by decide) with hz | ⟨hz, hsm0, hz0, hz1⟩
 all_goals try (have hsmO : (chA a (srcOf a.log) k).sm := chA_sm (srcOf_mem (gdA_of (by assumption) (by assumption)).1.2) k)
 all_goals try (have hcb := TChart.cs_le hsmO)
 all_goals try (have hclX : Clo (.agg (chA a (srcOf a.log) k).en) := Clo.agg (TChart.clo_en _))
 all_goals try (have hclT : Clo (.tup [.agg (chA a (srcOf a.log) k).en, B (chAk a (srcOf a.log) k)]) := Clo.tup (clo_cons hclX (clo_cons (clo_c _) clo_nil)))
 all_goals try (have hca_a := TAtlas.cs_le (a := a) (by assumption))
 all_goals try (have hclA0 : Clo (.ro 8 (a.log.map TEntry.en)) := clo_list TEntry.clo_en)
 all_goals try (have hclA1 : Clo (.ro 3 (a.levels.map TLevel.en)) := clo_list TLevel.clo_en)
 all_goals try (have hclA2 : Clo (.ro 3 (a.editions.map TEdition.en)) := clo_list TEdition.clo_en)
 all_goals try (have hclX0 : Clo (.ro 5 ((chA a (srcOf a.log) k).features.map TFeature.en)) := clo_list TFeature.clo_en)
 all_goals try (have hclX1 : Clo (.ro 6 ((chA a (srcOf a.log) k).labels.map TLabel.en)) := clo_list TLabel.clo_en)
 all_goals try (have hclM0 : Clo (.ro 5 ((TChart.ms 1 (chA a (srcOf a.log) k)).features.map TFeature.en)) := clo_list TFeature.clo_en)
 all_goals try (have hclM1 : Clo (.ro 6 ((TChart.ms 1 (chA a (srcOf a.log) k)).labels.map TLabel.en)) := clo_list TLabel.clo_en)
 all_goals try (have hk2 : decide (1 + (((chA a (srcOf a.log) k).cs : Nat) : Int) < 0) = false := by simp; omega)
 all_goals try (have hk1 : decide (1 + ((a.cs : Nat) : Int) < 0) = false := by simp; omega)
 repeat' ((first
  | (refine iAL ?_; first | refine AL.at 29 (h := POp.O Tryz.func14 (hc := toAtlas_oX a (by assumption))) ?_ | refine AL.at 33 (h := POp.O Tryz.func42 (hc := (show VCalls Tryz.prog 42 [.agg [.ro 8 (a.log.map TEntry.en), .ro 3 (a.levels.map TLevel.en), .ro 3 (a.editions.map TEdition.en), I a.cover.w, I a.cover.h, S a.cover.cells, I a.now], I k] (fun r M => r = .tup [.agg [.own 0 0, .own 1 0], B (chAk a (srcOf a.log) k)] ∧ M = [some ⟨81, 5, 0, false, (chA a (srcOf a.log) k).features.map TFeature.ed⟩, some ⟨174, 6, 0, false, (chA a (srcOf a.log) k).labels.map TLabel.en⟩]) from chAt_o a k (gdA_of (by assumption) (by assumption))))) ?_ | refine AL.any ?_ | refine AL.any (h := POp.k Tryz.func12 (hc := szAtlas a _ (by assumption))) ?_ | refine AL.any (h := POp.k Tryz.func14 (hc := toAtlas a (by assumption))) ?_ | refine AL.any (h := POp.D Tryz.func16 (hc := eqAtlas_self a (by assumption)) (hvw := vwlF)) ?_ | refine AL.any (h := POp.k Tryz.func41 (hc := chAt_s' a k (gdA_of (by assumption) (by assumption)))) ?_ | refine AL.any (h := POp.k Tryz.func42 (hc := chAt_i' a k (gdA_of (by assumption) (by assumption)))) ?_ | refine AL.any (h := POp.D Tryz.func43 (hc := eqChart_self (chA a (srcOf a.log) k) (by assumption)) (hvw := vwlF)) ?_ | refine AL.any (h := POp.H [2, 3, 4] Tryz.func44 (hc := markAtlas a (1) (by omega) (by omega))) ?_ | refine AL.any (h := POp.H [6, 7] Tryz.func45 (hc := markChart (chA a (srcOf a.log) k) 1 (by omega) (by omega))) ?_ | refine AL.any (h := POp.D Tryz.func46 (hc := heldChart (chA a (srcOf a.log) k) 1 (by omega) (by omega))) ?_ | refine AL.T ?_ | refine AL.T (h := POp.D Tryz.func43 (hc := eqChart_self (chA a (srcOf a.log) k) (by assumption)) (hvw := vwlF)) ?_ | refine AL.nil ?_)
  | ((with_reducible show DL ..); first | refine DL.any ?_ | refine DL.any (h := POp.k Tryz.func14 (hc := toAtlas a (by assumption))) ?_ | refine DL.nil ?_)
  | (refine iAW ?_; first | (refine AW.c0 ?_; constructor) | refine AW.dr (id := 10) 3 ?_ | refine AW.cT ?_ | refine AW.cF ?_)) <;> (try dsimp only))
 all_goals exact Fin.one rfl (RV.tmp (by rfl)) (clo_c _) ⟨by first | rfl | (simp_all; done), rfl⟩

end Go.Proofs.YtpffahmmklpifaaGreat.Abs
