/- Part D of the walk over abstract states and of the functions' walks. -/
import Derived.Test.YtpffahmmklpifaaGreatWkStep
import Derived.Test.YtpffahmmklpifaaGreatBnC
import Derived.Test.YtpffahmmklpifaaGreatBnB
import Derived.Lib.AppendZerosOnto
import Derived.WalkKit
import Derived.Lib.Walk
import Derived.Lib.SliceRun
import Derived.Shelf.RegionOpenPlain
/- The walks of thinner places. -/
namespace Go.Proofs.YtpffahmmklpifaaGreat.Abs
open Go.Proofs Go.RowKit
set_option linter.unusedVariables false
set_option linter.unusedSimpArgs false
set_option maxRecDepth 100000
set_option maxHeartbeats 2000000
attribute [local irreducible] OpA AL AW DL DLM DLR DLS QOp POp VCalls VCallsI
theorem far_i' (x y : TPlace) (hx : isp x.at_.x x.at_.y = true) (hy : isp y.at_.x y.at_.y = true) : VCalls Tryz.prog 162 [.agg x.at_.en, .agg y.at_.en] (fun r M => r = I (far2 y.at_ x.at_) ∧ M = []) := far2_comm x.at_ y.at_ ▸ far_i x.at_ y.at_ hx hy
theorem kept_i (l : List TPlace) (far : Int) (hp : PlOk l) (hfar : inr far 0 200 = true) : VCalls Tryz.prog 231 [.ro 4 (l.map TPlace.en), I far] (fun r M => r = .own 0 0 ∧ M = [some ⟨187, 4, 0, false, (kept (srtA l) far).map TPlace.en⟩]) := by
  refine VB Tryz.func231 52 (fun E hE => ?_)
  have a3 := True.intro
  have hclS : Clo (.ro 4 ((srtA l).map TPlace.en)) := clo_list TPlace.clo_en
  have hclo : Clo (.ro 4 (l.map TPlace.en)) := clo_list TPlace.clo_en
  have hpl := hp.len
  have hsl := srtA_len l
  repeat' ((first
    | (refine iAL ?_; first | refine AL.any ?_ | refine AL.any (h := POp.k Tryz.func211 (hc := frAb' _ (by assumption))) ?_ | refine AL.any (h := POp.k Tryz.func288 (hc := arePl_i _ (by assumption))) ?_ | refine AL.U ?_ | refine AL.F ?_ | refine AL.T ?_ | refine AL.T (h := POp.k Tryz.func145 (hc := inr_v _ _ _)) ?_ | refine AL.T (h := POp.k Tryz.func162 (hc := far_i' x y (by assumption) (by assumption))) ?_ | refine AL.W ?_ | refine AL.W (h := fun h => by (try rw [h]); exact POp.k Tryz.func145 (hc := inr_v _ _ _)) ?_ | refine AL.W (h := fun h => by (try rw [h]); exact POp.k Tryz.func162 (hc := far_i' x y (by assumption) (by assumption))) ?_ | refine AL.nil ?_)
    | (refine iAW ?_; first | (refine AW.c0 ?_; constructor) | refine AW.cT ?_ | refine AW.cF ?_ | (refine AW.c2 ?_ ?_ <;> (intro h; try simp only [bT, bF] at h)))
    | ((with_reducible show DL ..); first | refine DL.T (h := POp.quiet (QOp.fld_ref (off := 1) (n := 1) (by rfl) (by rfl) (by rfl) (by rfl) (by kernel_rfl))) ?_)
    | (have _ := a3
       clear a3
       refine AW.loopD hE (fun s_ : Nat => [.any, I far, .any, .any, .any, .own 0 (keptTo (srtA l) far s_).length, .any, .any, .any, .any, .any, .any, .any, .any, .any, .any, .any, .any, .any, .any, .any, .any, .ro 4 ((srtA l).map TPlace.en), I (((srtA l).map TPlace.en).length : Int), I (s_ : Int), .any, .any, .any, .any, .any, .any, .any, .any, .any, .any, .any, .any, .any, .any, .any, .any, .any, .any, .any, .any, .any, .any, .any, .any, .any, .any, .any, .any, .any]) (fun s_ => [some ⟨187, 4, (keptTo (srtA l) far s_).length, false, (keptTo (srtA l) far s_).map TPlace.en⟩]) (fun s_ => l.length - s_) (fun s_ => s_ ≤ l.length) 0 (Nat.zero_le _) ?_ (by first | rfl | (rfl)) ?_
       (focus ((repeat' (first | exact Wk.nil | refine Wk.any ?_ | (with_reducible refine Wk.same ?_) | refine Wk.of ?_ ?_)) <;> first | rfl | (simp [keptTo])))
       rintro j hJ
       try dsimp only at hJ
       try dsimp only
       by_cases hlt : j < l.length
       case' pos =>
         have a4 := True.intro
         obtain ⟨x, hx⟩ := getD_some (l := srtA l) (i := j) (by omega)
         have hg := map_get (f := TPlace.en) hx
         have ht : decide ((j : Int) < (((srtA l).map TPlace.en).length : Int)) = true := by simp; omega
         have hn := next_ix hlt (by omega)
         have hxm := (srtA_perm l).mem_iff.1 (List.mem_of_getElem? hx)
         have hxo := (hp.ok x hxm).2.1
         have hcle : Clo (.agg x.en) := Clo.agg x.clo_en
         have hkl := keptTo_len (srtA l) far j
       case' neg =>
         have q3 := True.intro
         have ht : decide ((j : Int) < (((srtA l).map TPlace.en).length : Int)) = false := by simp; omega
         obtain rfl : j = l.length := by omega
         have hka : keptTo (srtA l) far l.length = kept (srtA l) far := by rw [← srtA_len l, keptTo_all])
    | (have _ := a4
       clear a4
       refine AW.loopD hE (fun s_ : Nat => [.any, I far, .any, .any, .any, .own 0 (keptTo (srtA l) far j).length, .any, .ref 1 0 4 0 0, B (((keptTo (srtA l) far j).take s_).all (farOk far x)), .any, .any, .any, .any, .any, .any, .any, .any, .any, .any, .any, .any, .any, .ro 4 ((srtA l).map TPlace.en), I (((srtA l).map TPlace.en).length : Int), I (j : Int), .any, .any, .any, .own 0 (keptTo (srtA l) far j).length, I (((keptTo (srtA l) far j).map TPlace.en).length : Int), I (s_ : Int), .any, .any, .any, .any, .any, .any, .any, .any, .any, .any, .any, .any, .any, .any, .any, .any, .any, .any, .any, .any, .any, .any, .any]) (fun s_ => [some ⟨187, 4, (keptTo (srtA l) far j).length, false, (keptTo (srtA l) far j).map TPlace.en⟩, some ⟨187, 4, 0, true, [x.en]⟩]) (fun s_ => (keptTo (srtA l) far j).length - s_) (fun s_ => s_ ≤ (keptTo (srtA l) far j).length) 0 (Nat.zero_le _) ?_ (by first | rfl | (rfl)) ?_
       (focus ((repeat' (first | exact Wk.nil | refine Wk.any ?_ | (with_reducible refine Wk.same ?_) | refine Wk.of ?_ ?_)) <;> first | rfl | simp))
       rintro k hJ
       try dsimp only at hJ
       try dsimp only
       by_cases hlt : k < (keptTo (srtA l) far j).length
       case' pos =>
         have p4 := True.intro
         obtain ⟨y, hy⟩ := getD_some (l := (keptTo (srtA l) far j)) (i := k) hlt
         have hgy : ((keptTo (srtA l) far j).map TPlace.en)[((k : Int)).toNat]? = some y.en := by rw [Int.toNat_natCast, List.getElem?_map, hy]; rfl
         have hty := lt_true (f := TPlace.en) hlt
         have hny := next_ix hlt (by omega)
         have hyo := (hp.ok y ((srtA_perm l).mem_iff.1 (keptTo_mem (List.mem_of_getElem? hy)))).2.1
         have hky : decide (far2 y.at_ x.at_ ≥ IntKind.i64.wrap (far * far)) = farOk far x y := by rw [(far_sq hfar).1]; rfl
         have hcly : Clo (.agg y.en) := Clo.agg y.clo_en
         have hixk : (k : Int) < (((keptTo (srtA l) far j).map TPlace.en).length : Int) := by rw [List.length_map]; omega
         rcases Bool.eq_false_or_eq_true (((keptTo (srtA l) far j).take k).all (farOk far x)) with hb | hb
         case' inl => have hat := (all_take_y (p := farOk far x) hy hb).trans hky.symm
         case' inr => have hat := all_take_n (p := farOk far x) hy hb
       case' neg =>
         have q4 := True.intro
         have hty := lt_false (f := TPlace.en) hlt
         obtain rfl : k = (keptTo (srtA l) far j).length := by omega
         rw [List.take_length]
         rcases Bool.eq_false_or_eq_true ((keptTo (srtA l) far j).all (farOk far x)) with hb | hb
         case' inl => obtain ⟨hm, hm2⟩ := keptTo_y (far := far) hx hb
         case' inr => obtain ⟨hm, hm2⟩ := keptTo_n (far := far) hx hb)
    | with_reducible refine ifP ?_
    | with_reducible refine ifN ?_) <;> (try dsimp only))
  all_goals first
    | (have _ := p4; refine ⟨k + 1, _, hlt, by omega, ?_, rfl, ?_, ?_⟩; (focus ((repeat' (first | exact Wk.nil | refine Wk.any ?_ | (with_reducible refine Wk.same ?_) | refine Wk.of ?_ ?_)) <;> first | rfl | (rw [hat]; done) | (rw [hny]; done))); (focus (exact fitsA)); (focus (exact fitsM_cons (clo_rows TPlace.clo_en) (fitsM_cons (clo_one x.clo_en) (FitsM.nil _)))))
    | (have _ := q4; refine ⟨j + 1, _, (by assumption), by omega, ?_, by rw [hm, hm2] <;> rfl, ?_, ?_⟩; (focus ((repeat' (first | exact Wk.nil | refine Wk.any ?_ | (with_reducible refine Wk.same ?_) | refine Wk.of ?_ ?_)) <;> first | rfl | (rw [hm2]; done) | (rw [hn]; done))); (focus (exact fitsA)); (focus (exact fitsM_cons (clo_rows TPlace.clo_en) (FitsM.nil _))))
    | (have _ := q3; exact Fin.r1 [0] rfl (RV.tmp (by rfl)) ⟨rfl, by rw [hka] <;> rfl⟩)

theorem kept_i' (l : List TPlace) (far : Int) (hp : PlOk l) (hfar : inr far 0 200 = true) : VCalls Tryz.prog 231 [.ro 4 (l.map TPlace.en), I far] (fun r M => r = .ro 4 ((kept (srtA l) far).map TPlace.en) ∧ M = []) := VCalls.frz (kept_i l far hp hfar) vwlT
theorem thin_i (l : List TPlace) (far : Int) (hp : PlOk l) (hfar : inr far 0 200 = true) : VCalls Tryz.prog 208 [.ro 4 (l.map TPlace.en), I far] (fun r M => r = .own 0 0 ∧ M = [some ⟨3, 1, 0, false, (thinI l far).map enI⟩]) := by
  refine VB Tryz.func208 24 (fun E hE => ?_)
  have hclo : Clo (.ro 4 (l.map TPlace.en)) := clo_list TPlace.clo_en
  have hpl := hp.len
  have hkl := thin_len l far
  have hclK : Clo (.ro 4 (((kept (srtA l) far)).map TPlace.en)) := clo_list TPlace.clo_en
  repeat' ((first
    | (refine iAL ?_; first | refine AL.any ?_ | refine AL.any (h := POp.H [0] Tryz.func62 (hc := sortI ((kept (srtA l) far).map (·.id)) (by rw [List.length_map]; omega))) ?_ | refine AL.any (h := POp.k Tryz.func231 (hc := kept_i' _ _ (by assumption) (by assumption))) ?_ | refine AL.nil ?_)
    | (refine iAW ?_; first | (refine AW.c0 ?_; constructor) | refine AW.cT ?_ | refine AW.cF ?_ | (refine AW.c2 ?_ ?_ <;> (intro h; try simp only [bT, bF] at h)))
    | (refine AW.loopD hE (fun i : Nat => [.any, .any, .any, .any, .any, .own 0 i, .any, .any, .any, .any, .any, .ro 4 (((kept (srtA l) far)).map TPlace.en), I (((kept (srtA l) far).map TPlace.en).length : Int), I (i : Int), .any, .any, .any, .any, .any, .any, .any, .any, .any, .any, .any, .any]) (fun i => [some ⟨3, 1, i, false, (((kept (srtA l) far).map (·.id)).take i).map enI⟩]) (fun i => (kept (srtA l) far).length - i) (fun i => i ≤ (kept (srtA l) far).length) 0 (by simp) ?_ (by first | rfl | (simp [fil_zero]; done)) ?_
       (focus ((repeat' (first | exact Wk.nil | refine Wk.any ?_ | (with_reducible refine Wk.same ?_) | refine Wk.of ?_ ?_)) <;> first | rfl | (rfl)))
       intro i hi
       by_cases hlt : i < (kept (srtA l) far).length
       case' pos =>
         have hP := True.intro
         obtain ⟨x, hx⟩ : ∃ x, (kept (srtA l) far)[i]? = some x := ⟨_, List.getElem?_eq_getElem hlt⟩
         have hg := map_get (f := TPlace.en) hx
         have ht := lt_true (f := TPlace.en) hlt
         have hn := next_ix hlt (by omega)
         have hid : ((kept (srtA l) far).map (·.id))[i]? = some x.id := by rw [List.getElem?_map, hx]; rfl
         have hm : (((kept (srtA l) far).map (·.id)).take (i + 1)).map enI = (((kept (srtA l) far).map (·.id)).take i).map enI ++ [[I x.id]] := by rw [take_succ_of hid, List.map_append]; rfl
       case' neg =>
         have hQ := True.intro
         have ht := lt_false (f := TPlace.en) hlt
         have e : i = (kept (srtA l) far).length := by omega
         subst e
         try rw [List.take_length]
         have htk : ((kept (srtA l) far).map (·.id)).take (kept (srtA l) far).length = ((kept (srtA l) far).map (·.id)) := by rw [← List.length_map (f := fun x : TPlace => x.id), List.take_length]
         rw [htk])
    | with_reducible refine ifP ?_
    | with_reducible refine ifN ?_) <;> (try dsimp only))
  all_goals first
    | (have _ := hP; (refine ⟨i + 1, _, hlt, by omega, ?_, by rw [hm] <;> rfl, ?_, ?_⟩; (focus ((repeat' (first | exact Wk.nil | refine Wk.any ?_ | (with_reducible refine Wk.same ?_) | refine Wk.of ?_ ?_)) <;> (first | rfl | (rw [hn]; done)))); (focus (exact fitsA)); (focus (exact fits_row (clo_rows clo_enI)))))
    | (have _ := hQ; exact Fin.r1 [0] rfl (RV.tmp (by rfl)) ⟨rfl, by unfold thinI; rw [← merge_put (thin_nodup hp far)] <;> rfl⟩)

theorem thin_s (l : List TPlace) (far : Int) (hp : PlOk l) (hfar : inr far 0 200 = true) : VCalls Tryz.prog 200 [.ro 4 (l.map TPlace.en), I far] (fun r M => r = .ro 1 ((thinI l far).map enI) ∧ M = []) := by
  refine VB Tryz.func200 33 (fun E hE => ?_)
  have hclo : Clo (.ro 4 (l.map TPlace.en)) := clo_list TPlace.clo_en
  have hpl := hp.len
  have hkl := thin_len l far
  have hclK : Clo (.ro 4 (((kept (srtA l) far)).map TPlace.en)) := clo_list TPlace.clo_en
  repeat' ((first
    | (refine iAL ?_; first | refine AL.any (h := POp.lit0 (RowRun.empty (by rfl) (by rfl) rwk56) clo_rows_nil) ?_ | refine AL.any ?_ | refine AL.any (h := POp.k Tryz.func54 (hc := put14_s' (putIs [] (((kept (srtA l) far).map (·.id)).take i)) x.id (by omega))) ?_ | refine AL.any (h := POp.k Tryz.func203 (hc := kept_s _ _ (by assumption) (by assumption))) ?_ | refine AL.any (h := POp.k Tryz.func268 (hc := arePl_s _ (by assumption))) ?_ | refine AL.U ?_ | refine AL.F ?_ | refine AL.T ?_ | refine AL.T (h := POp.k Tryz.func96 (hc := inr_s _ _ _)) ?_ | refine AL.W ?_ | refine AL.W (h := fun h => by (try rw [h]); exact POp.k Tryz.func96 (hc := inr_s _ _ _)) ?_ | refine AL.nil ?_)
    | (refine iAW ?_; first | (refine AW.c0 ?_; constructor) | refine AW.cT ?_ | refine AW.cF ?_ | (refine AW.c2 ?_ ?_ <;> (intro h; try simp only [bT, bF] at h)))
    | (refine AW.loopD hE (fun i : Nat => [.any, .any, .any, .any, .any, .ro 1 ((putIs [] (((kept (srtA l) far).map (·.id)).take i)).map enI), .ro 4 (((kept (srtA l) far)).map TPlace.en), I (i : Int), .any, .any, .any, .any, .any, .any, .any, .any, .any, .any, .any, .any, .any, .any, .any, .any, .any, .any, .any, .any, .any, .any, .any, .any, .any, .any, .any]) (fun i => []) (fun i => (kept (srtA l) far).length - i) (fun i => i ≤ (kept (srtA l) far).length) 0 (by simp) ?_ (by first | rfl | (simp [fil_zero]; done)) ?_
       (focus ((repeat' (first | exact Wk.nil | refine Wk.any ?_ | (with_reducible refine Wk.same ?_) | refine Wk.of ?_ ?_)) <;> first | rfl | (rfl)))
       intro i hi
       by_cases hlt : i < (kept (srtA l) far).length
       case' pos =>
         have hP := True.intro
         obtain ⟨x, hx⟩ : ∃ x, (kept (srtA l) far)[i]? = some x := ⟨_, List.getElem?_eq_getElem hlt⟩
         have hg := map_get (f := TPlace.en) hx
         have ht := lt_true (f := TPlace.en) hlt
         have hn := next_ix hlt (by omega)
         have hid : ((kept (srtA l) far).map (·.id))[i]? = some x.id := by rw [List.getElem?_map, hx]; rfl
         have hm : (((kept (srtA l) far).map (·.id)).take (i + 1)).map enI = (((kept (srtA l) far).map (·.id)).take i).map enI ++ [[I x.id]] := by rw [take_succ_of hid, List.map_append]; rfl
         have hps := putIs_take1 hid
         have hpl2 := putIs_len (((kept (srtA l) far).map (·.id)).take i) []
         have htl : (((kept (srtA l) far).map (·.id)).take i).length ≤ i := by rw [List.length_take]; omega
         have hpl3 : (putIs [] (((kept (srtA l) far).map (·.id)).take i)).length ≤ 1048576 := by simp only [List.length_nil] at hpl2; omega
         have hclA : Clo (.ro 1 ((putIs [] (((kept (srtA l) far).map (·.id)).take i)).map enI)) := clo_list clo_enI
         have hclB : Clo (.ro 1 ((putI (putIs [] (((kept (srtA l) far).map (·.id)).take i)) x.id).map enI)) := clo_list clo_enI
         have hclC : Clo (.ro 1 ((putIs [] (((kept (srtA l) far).map (·.id)).take (i + 1))).map enI)) := clo_list clo_enI
       case' neg =>
         have hQ := True.intro
         have ht := lt_false (f := TPlace.en) hlt
         have e : i = (kept (srtA l) far).length := by omega
         subst e
         try rw [List.take_length]
         have htk : ((kept (srtA l) far).map (·.id)).take (kept (srtA l) far).length = ((kept (srtA l) far).map (·.id)) := by rw [← List.length_map (f := fun x : TPlace => x.id), List.take_length]
         rw [htk])
    | with_reducible refine ifP ?_
    | with_reducible refine ifN ?_) <;> (try dsimp only))
  all_goals first
    | (have _ := hP; (refine ⟨i + 1, _, hlt, by omega, ?_, rfl, ?_, ?_⟩; (focus ((repeat' (first | exact Wk.nil | refine Wk.any ?_ | (with_reducible refine Wk.same ?_) | refine Wk.of ?_ ?_)) <;> (first | rfl | (rw [hn]; done) | (rw [hps]; done)))); (focus (exact fitsA)); (focus (exact FitsM.nil _))))
    | (have _ := hQ; exact Fin.one rfl (RV.tmp (by rfl)) (clo_list clo_enI) ⟨rfl, rfl⟩)

def has (l : List Int) (n : Int) : Bool := l.any fun y => y == n
theorem has_iff {l : List Int} {n : Int} : has l n = true ↔ n ∈ l := by simp [has]
theorem any_take_n {α : Type} {l : List α} {p : α → Bool} {i : Nat} {x : α} (hx : l[i]? = some x) (h : (l.take i).any p = false) (hp : p x = false) : (l.take (i + 1)).any p = false := by
  rw [take_succ_of hx, List.any_append, h]
  simp [hp]
theorem any_yes {α : Type} {l : List α} {p : α → Bool} {i : Nat} {x : α} (hx : l[i]? = some x) (hp : p x = true) : l.any p = true := List.any_eq_true.2 ⟨x, List.mem_of_getElem? hx, hp⟩
def ixI (l : List Int) (n : Int) : Int := if has l n = true then ((l.findIdx fun y => y == n : Nat) : Int) else -1
theorem findIdx_at {α : Type} {p : α → Bool} : ∀ {l : List α} {i : Nat} {x : α}, l[i]? = some x → p x = true → (l.take i).any p = false → l.findIdx p = i
  | [], i, x, hx, _, _ => by simp at hx
  | a :: l, 0, x, hx, hp, _ => by
    simp at hx
    subst hx
    rw [List.findIdx_cons, hp]
    rfl
  | a :: l, i + 1, x, hx, hp, hn => by
    rw [List.take_succ_cons, List.any_cons, Bool.or_eq_false_iff] at hn
    rw [List.findIdx_cons, hn.1, findIdx_at (by simpa using hx) hp hn.2]
    rfl
theorem ixI_y {l : List Int} {n : Int} {i : Nat} {x : Int} (hx : l[i]? = some x) (hp : (x == n) = true) (hn : ((l.take i).any fun y => y == n) = false) : ixI l n = (i : Int) := by
  rw [ixI, if_pos (show has l n = true from any_yes hx hp), findIdx_at hx hp hn]
theorem ixI_n {l : List Int} {n : Int} (hn : ((l.take l.length).any fun y => y == n) = false) : ixI l n = -1 := by
  rw [List.take_length] at hn
  rw [ixI, if_neg (by rw [has, hn]; decide)]
theorem ixI_ge (l : List Int) (n : Int) : decide (ixI l n ≥ 0) = has l n := by
  unfold ixI
  cases h : has l n
  · rw [if_neg (by decide)]; decide
  · rw [if_pos rfl]; simp
theorem beq_symm (a b : Int) : (a == b) = (b == a) := by
  rw [Bool.eq_iff_iff]
  simp
  exact ⟨fun h => h.symm, fun h => h.symm⟩
def rkdTo (l : List TFeature) (r : Int) (i : Nat) : List TFeature := (l.take i).filter fun x => decide (x.rank ≥ r)
def rkd (l : List TFeature) (r : Int) : List TFeature := l.filter fun x => decide (x.rank ≥ r)
theorem rkdTo_all (l : List TFeature) (r : Int) : rkdTo l r l.length = rkd l r := by rw [rkdTo, List.take_length]; rfl
theorem filt_y {α : Type} {l : List α} {p : α → Bool} {i : Nat} {x : α} (hx : l[i]? = some x) (h : p x = true) : (l.take (i + 1)).filter p = (l.take i).filter p ++ [x] := by
  rw [take_succ_of hx, List.filter_append]
  simp [List.filter_cons, h]
theorem filt_n {α : Type} {l : List α} {p : α → Bool} {i : Nat} {x : α} (hx : l[i]? = some x) (h : p x = false) : (l.take (i + 1)).filter p = (l.take i).filter p := by
  rw [take_succ_of hx, List.filter_append]
  simp [List.filter_cons, h]
theorem filt_len {α : Type} (l : List α) (p : α → Bool) (i : Nat) : ((l.take i).filter p).length ≤ i := Nat.le_trans (List.length_filter_le _ _) (by rw [List.length_take]; omega)
theorem rkd_src {l : List TFeature} (hS : isSource l = true) (r : Int) : isSource (rkd l r) = true := src_filter hS _
theorem rkd_gd {l : List TFeature} (hg : ∀ x ∈ l, x.gd) (r : Int) : ∀ x ∈ rkd l r, x.gd := fun x hx => hg x (List.mem_filter.1 hx).1
def thn (l : List TFeature) (v : TLevel) : List Int := thinI (plsOf (rkd l v.rank)) v.far
def shP (l : List TFeature) (v : TLevel) (x : TFeature) : Bool := (x.kind != 1) || has (thn l v) x.id
def shTo (l : List TFeature) (v : TLevel) (i : Nat) : List Int := (((rkd l v.rank).take i).filter (shP l v)).map (·.id)
def shown (l : List TFeature) (v : TLevel) : List Int := ((rkd l v.rank).filter (shP l v)).map (·.id)
theorem shTo_all (l : List TFeature) (v : TLevel) : shTo l v (rkd l v.rank).length = shown l v := by rw [shTo, List.take_length]; rfl
theorem shTo_y {l : List TFeature} {v : TLevel} {i : Nat} {x : TFeature} (hx : (rkd l v.rank)[i]? = some x) (h : shP l v x = true) : (shTo l v (i + 1)).map enI = (shTo l v i).map enI ++ [[I x.id]] ∧ (shTo l v (i + 1)).length = (shTo l v i).length + 1 := by
  unfold shTo
  rw [filt_y hx h]
  simp
theorem shTo_n {l : List TFeature} {v : TLevel} {i : Nat} {x : TFeature} (hx : (rkd l v.rank)[i]? = some x) (h : shP l v x = false) : (shTo l v (i + 1)).map enI = (shTo l v i).map enI ∧ (shTo l v (i + 1)).length = (shTo l v i).length := by
  unfold shTo
  rw [filt_n hx h]
  exact ⟨rfl, rfl⟩
theorem shTo_len (l : List TFeature) (v : TLevel) (i : Nat) : (shTo l v i).length ≤ i := by
  unfold shTo
  rw [List.length_map]
  exact filt_len _ _ _
theorem thn_len {l : List TFeature} (hS : isSource l = true) (v : TLevel) : (thn l v).length ≤ 16 := by
  have h1 := putIs_len ((kept (srtA (plsOf (rkd l v.rank))) v.far).map (·.id)) []
  have h2 := thin_len (plsOf (rkd l v.rank)) v.far
  have h3 := (plsOf_ok (rkd_src hS v.rank)).len
  unfold thn thinI
  simp at h1
  omega
def npTo (l : List TFeature) (v : TLevel) (i : Nat) : List Int := thn l v ++ (((rkd l v.rank).take i).filter fun x => x.kind != 1).map (·.id)
theorem npTo_y {l : List TFeature} {v : TLevel} {i : Nat} {x : TFeature} (hx : (rkd l v.rank)[i]? = some x) (h : (x.kind != 1) = true) : (npTo l v (i + 1)).map enI = (npTo l v i).map enI ++ [[I x.id]] := by
  unfold npTo
  rw [filt_y hx h]
  simp
theorem npTo_n {l : List TFeature} {v : TLevel} {i : Nat} {x : TFeature} (hx : (rkd l v.rank)[i]? = some x) (h : (x.kind != 1) = false) : npTo l v (i + 1) = npTo l v i := by
  unfold npTo
  rw [filt_n hx h]
theorem npTo_len {l : List TFeature} (hS : isSource l = true) (v : TLevel) (i : Nat) : (npTo l v i).length ≤ 16 + i := by
  have h1 := thn_len hS v
  have h2 := filt_len (rkd l v.rank) (fun x => x.kind != 1) i
  unfold npTo
  simp only [List.length_append, List.length_map]
  omega
theorem thn_mem {l : List TFeature} {v : TLevel} {n : Int} (h : n ∈ thn l v) : ∃ x ∈ rkd l v.rank, (x.kind == 1) = true ∧ x.id = n := by
  obtain ⟨_, h2⟩ := putIs_asc (xs := (kept (srtA (plsOf (rkd l v.rank))) v.far).map (·.id)) (l := []) List.Pairwise.nil
  have hm := (h2 n).1 h
  simp only [List.not_mem_nil, or_false] at hm
  obtain ⟨p, hp, rfl⟩ := List.mem_map.1 hm
  have hp2 := (srtA_perm _).mem_iff.1 ((kept_sub _ _).subset hp)
  unfold plsOf at hp2
  obtain ⟨x, hx, rfl⟩ := List.mem_map.1 hp2
  obtain ⟨hx1, hx2⟩ := List.mem_filter.1 hx
  exact ⟨x, hx1, hx2, rfl⟩
theorem shown_merge {l : List TFeature} (hS : isSource l = true) (v : TLevel) : ((npTo l v (rkd l v.rank).length).mergeSort fun x y => decide (x ≤ y)) = shown l v := by
  obtain ⟨h1, h2, h3⟩ := (src_iff _).1 (rkd_src hS v.rank)
  have hid : ∀ x ∈ rkd l v.rank, ∀ y ∈ rkd l v.rank, x.id = y.id → x = y := fun x hx y hy e => by
    obtain ⟨i, hi, rfl⟩ := List.mem_iff_getElem.1 hx
    obtain ⟨j, hj, rfl⟩ := List.mem_iff_getElem.1 hy
    rcases Nat.lt_trichotomy i j with h | h | h
    · have := List.pairwise_iff_getElem.1 h3 i j hi hj h; omega
    · subst h; rfl
    · have := List.pairwise_iff_getElem.1 h3 j i hj hi h; omega
  have hnd : (npTo l v (rkd l v.rank).length).Pairwise (· ≠ ·) := by
    unfold npTo
    rw [List.take_length]
    refine List.pairwise_append.2 ⟨?_, ?_, fun a ha b hb e => ?_⟩
    · obtain ⟨g, _⟩ := putIs_asc (xs := (kept (srtA (plsOf (rkd l v.rank))) v.far).map (·.id)) (l := []) List.Pairwise.nil
      exact g.imp fun h => by omega
    · rw [List.pairwise_map]
      exact (h3.filter _).imp fun h => by omega
    · obtain ⟨x, hx, hk, rfl⟩ := thn_mem ha
      obtain ⟨y, hy, hye⟩ := List.mem_map.1 hb
      obtain ⟨hy1, hy2⟩ := List.mem_filter.1 hy
      have := hid x hx y hy1 (by rw [e, hye])
      subst this
      simp at hk hy2
      exact hy2 hk
  have hsh : (shown l v).Pairwise (· < ·) := by
    unfold shown
    rw [List.pairwise_map]
    exact h3.filter _
  refine asc_ext sto_int (merge_asc hnd) hsh fun n => ?_
  rw [(List.mergeSort_perm _ _).mem_iff]
  unfold npTo shown
  rw [List.take_length, List.mem_append, List.mem_map, List.mem_map]
  constructor
  · rintro (h | ⟨x, hx, rfl⟩)
    · obtain ⟨x, hx, hk, rfl⟩ := thn_mem h
      exact ⟨x, List.mem_filter.2 ⟨hx, by unfold shP; rw [Bool.or_eq_true]; exact .inr (has_iff.2 h)⟩, rfl⟩
    · obtain ⟨hx1, hx2⟩ := List.mem_filter.1 hx
      exact ⟨x, List.mem_filter.2 ⟨hx1, by unfold shP; rw [Bool.or_eq_true]; exact .inl hx2⟩, rfl⟩
  · rintro ⟨x, hx, rfl⟩
    obtain ⟨hx1, hx2⟩ := List.mem_filter.1 hx
    unfold shP at hx2
    rw [Bool.or_eq_true] at hx2
    rcases hx2 with h | h
    · exact .inr ⟨x, List.mem_filter.2 ⟨hx1, h⟩, rfl⟩
    · exact .inl (has_iff.1 h)

theorem has_s (l : List Int) (n : Int) (hl : l.length ≤ 1048576) : VCalls Tryz.prog 135 [.ro 1 (l.map enI), I n] (fun r M => r = B (has l n) ∧ M = []) := by
  refine VB Tryz.func135 16 (fun E hE => ?_)
  have hclo : Clo (.ro 1 (l.map enI)) := clo_list clo_enI
  repeat' ((first
    | (refine iAL ?_; first | refine AL.any ?_ | refine AL.nil ?_)
    | (refine iAW ?_; first | (refine AW.c0 ?_; constructor) | refine AW.cT ?_ | refine AW.cF ?_ | (refine AW.c2 ?_ ?_ <;> (intro h; try simp only [bT, bF] at h)))
    | (refine AW.loopD hE (fun i : Nat => [.ro 1 (l.map enI), I n, .any, .any, .any, I (i : Int), .any, .any, .any, .any, .any, .any, .any, .any, .any, .any, .any, .any]) (fun i => []) (fun i => l.length - i) (fun i => i ≤ l.length ∧ (l.take i).any (fun y => y == n) = false) 0 ⟨Nat.zero_le _, rfl⟩ ?_ (by first | rfl | (simp [fil_zero]; done)) ?_
       (focus ((repeat' (first | exact Wk.nil | refine Wk.any ?_ | (with_reducible refine Wk.same ?_) | refine Wk.of ?_ ?_)) <;> first | rfl | (rfl)))
       intro i hi
       have hi2 := hi.2
       by_cases hlt : i < l.length
       case' pos =>
         have hP := True.intro
         obtain ⟨x, hx⟩ : ∃ x, l[i]? = some x := ⟨_, List.getElem?_eq_getElem hlt⟩
         have hg := map_get (f := enI) hx
         have ht := lt_true (f := enI) hlt
         have hn := next_ix hlt (by omega)
         rcases Bool.eq_false_or_eq_true (x == n) with hxn | hxn
         case' inr => have hjn := any_take_n hx hi2 hxn
       case' neg =>
         have hQ := True.intro
         have ht := lt_false (f := enI) hlt
         have e : i = l.length := by omega
         subst e
         try rw [List.take_length])
    | with_reducible refine ifP ?_
    | with_reducible refine ifN ?_) <;> (try dsimp only))
  all_goals first
    | (have _ := hP; (refine ⟨i + 1, _, ⟨hlt, hjn⟩, by omega, ?_, rfl, ?_, ?_⟩; (focus ((repeat' (first | exact Wk.nil | refine Wk.any ?_ | (with_reducible refine Wk.same ?_) | refine Wk.of ?_ ?_)) <;> (first | rfl | (rw [hn]; done)))); (focus (exact fitsA)); (focus (exact FitsM.nil _))))
    | (have _ := hP; exact Fin.one rfl (RV.tmp (by rfl)) (clo_c _) ⟨by rw [has, any_yes hx hxn], rfl⟩)
    | (have _ := hQ; exact Fin.one rfl (RV.tmp (by rfl)) (clo_c _) ⟨by rw [List.take_length] at hi2; rw [has, hi2], rfl⟩)

theorem ix_i (l : List Int) (n : Int) (hl : l.length ≤ 1048576) : VCalls Tryz.prog 209 [.ro 1 (l.map enI), I n] (fun r M => r = I (ixI l n) ∧ M = []) := by
  refine VB Tryz.func209 17 (fun E hE => ?_)
  have hclo : Clo (.ro 1 (l.map enI)) := clo_list clo_enI
  repeat' ((first
    | (refine iAL ?_; first | refine AL.any ?_ | refine AL.nil ?_)
    | (refine iAW ?_; first | (refine AW.c0 ?_; constructor) | refine AW.cT ?_ | refine AW.cF ?_ | (refine AW.c2 ?_ ?_ <;> (intro h; try simp only [bT, bF] at h)))
    | (refine AW.loopD hE (fun i : Nat => [.ro 1 (l.map enI), I n, .any, .any, .any, .any, .any, I ((l.map enI).length : Int), I (i : Int), .any, .any, .any, .any, .any, .any, .any, .any, .any, .any]) (fun i => []) (fun i => l.length - i) (fun i => i ≤ l.length ∧ (l.take i).any (fun y => y == n) = false) 0 ⟨Nat.zero_le _, rfl⟩ ?_ (by first | rfl | (simp [fil_zero]; done)) ?_
       (focus ((repeat' (first | exact Wk.nil | refine Wk.any ?_ | (with_reducible refine Wk.same ?_) | refine Wk.of ?_ ?_)) <;> first | rfl | (rfl)))
       intro i hi
       have hi2 := hi.2
       by_cases hlt : i < l.length
       case' pos =>
         have hP := True.intro
         obtain ⟨x, hx⟩ : ∃ x, l[i]? = some x := ⟨_, List.getElem?_eq_getElem hlt⟩
         have hg := map_get (f := enI) hx
         have ht := lt_true (f := enI) hlt
         have hn := next_ix hlt (by omega)
         rcases Bool.eq_false_or_eq_true (n == x) with hxn | hxn
         case' inr => have hjn := any_take_n (p := fun y => y == n) hx hi2 (by rw [beq_symm]; exact hxn)
       case' neg =>
         have hQ := True.intro
         have ht := lt_false (f := enI) hlt
         have e : i = l.length := by omega
         subst e
         try rw [List.take_length])
    | with_reducible refine ifP ?_
    | with_reducible refine ifN ?_) <;> (try dsimp only))
  all_goals first
    | (have _ := hP; (refine ⟨i + 1, _, ⟨hlt, hjn⟩, by omega, ?_, rfl, ?_, ?_⟩; (focus ((repeat' (first | exact Wk.nil | refine Wk.any ?_ | (with_reducible refine Wk.same ?_) | refine Wk.of ?_ ?_)) <;> (first | rfl | (rw [hn]; done)))); (focus (exact fitsA)); (focus (exact FitsM.nil _))))
    | (have _ := hP; exact Fin.one rfl (RV.tmp (by rfl)) (clo_c _) ⟨by rw [ixI_y hx (by rw [beq_symm]; exact hxn) hi2], rfl⟩)
    | (have _ := hQ; exact Fin.one rfl (RV.tmp (by rfl)) (clo_c _) ⟨by rw [ixI_n hi2], rfl⟩)

theorem has_i (l : List Int) (n : Int) (hl : l.length ≤ 1048576) : VCalls Tryz.prog 141 [.ro 1 (l.map enI), I n] (fun r M => r = B (has l n) ∧ M = []) := by
  refine VB Tryz.func141 7 (fun E hE => ?_)
  have hclo : Clo (.ro 1 (l.map enI)) := clo_list clo_enI
  repeat' ((first
    | (refine iAL ?_; first | refine AL.any ?_ | refine AL.any (h := POp.k Tryz.func209 (hc := ix_i _ _ (by omega))) ?_ | refine AL.nil ?_)
    | (refine iAW ?_; first | (refine AW.c0 ?_; constructor))) <;> (try dsimp only))
  all_goals exact Fin.one rfl (RV.tmp (by rfl)) (clo_c _) ⟨by rw [← ixI_ge], rfl⟩

theorem cloneF' (x : TFeature) (hs : x.sm) : VCalls Tryz.prog 118 [.agg x.en] (fun r M => r = .agg x.en ∧ M = []) := VCalls.frz (cloneF x hs) (by repeat' (first | exact VwL.nil | refine VwL.cons ?_ ?_ | (refine View.own (by rfl) (by rfl) (by rfl) (by rfl) ?_ ?_ <;> first | exact DCl.b rfl | exact DCl.map (fun _ => rfl) | assumption | rfl | exact TPoint.und | exact TSegment.und | exact TBox.und | exact TFeature.und | exact TMeet.und | exact TPlace.und | exact TCover.und | exact TLabel.und | exact TPiece.und | exact TLevel.und | exact TChart.und | exact TReason.und | exact TEdit.und | exact TEntry.und | exact TEdition.und | exact TListing.und | exact TAtlas.und | exact TEvent.und | exact TWindow.und | exact und_nil | exact und_I | assumption) | refine View.agg' ?_ | exact View.same (by first | exact clo_of (by rfl) | assumption | exact clo_fn _) | exact View.nil))
theorem rkd_s (l : List TFeature) (rk : Int) (hS : isSource l = true) (hg0 : ∀ x ∈ l, x.gd) : VCalls Tryz.prog 199 [.ro 5 (l.map TFeature.en), I rk] (fun r M => r = .ro 5 ((rkd l rk).map TFeature.en) ∧ M = []) := by
  refine VB Tryz.func199 28 (fun E hE => ?_)
  have hclo : Clo (.ro 5 (l.map TFeature.en)) := clo_list TFeature.clo_en
  have hsl := src_len hS
  repeat' ((first
    | (refine iAL ?_; first | refine AL.any ?_ | refine AL.any (h := POp.k Tryz.func108 (hc := cloneF_s' x (by assumption))) ?_ | refine AL.nil ?_)
    | (refine iAW ?_; first | (refine AW.freezeRet (t := 4) (id := 0) rfl rfl rfl rfl (clo_rows TFeature.clo_en) ?_; (try simp only [List.take_length]); try dsimp only [dput, List.set, cond_true, cond_false, Nat.zero_add, Nat.add_zero, Nat.reduceAdd, splice, List.take, List.drop, List.length, List.nil_append, List.cons_append, List.append, TPoint.en, TSegment.en, TBox.en, TFeature.en, TMeet.en, TPlace.en, TCover.en, TLabel.en, TPiece.en, TLevel.en, TChart.en, TReason.en, TEdit.en, TEntry.en, TEdition.en, TListing.en, TAtlas.en, TEvent.en, TWindow.en]) | (refine AW.c0 ?_; constructor) | refine AW.cT ?_ | refine AW.cF ?_ | (refine AW.c2 ?_ ?_ <;> (intro h; try simp only [bT, bF] at h)))
    | (refine AW.loopD hE (fun i : Nat => [.ro 5 (l.map TFeature.en), I rk, .any, .any, .any, .own 0 (rkdTo l rk i).length, I (i : Int), .any, .any, .any, .any, .any, .any, .any, .any, .any, .any, .any, .any, .any, .any, .any, .any, .any, .any, .any, .any, .any, .any, .any]) (fun i => [some ⟨81, 5, (rkdTo l rk i).length, false, (rkdTo l rk i).map TFeature.en⟩]) (fun i => l.length - i) (fun i => i ≤ l.length) 0 (by simp) ?_ (by first | rfl | (simp [fil_zero]; done)) ?_
       (focus ((repeat' (first | exact Wk.nil | refine Wk.any ?_ | (with_reducible refine Wk.same ?_) | refine Wk.of ?_ ?_)) <;> first | rfl | (rfl)))
       intro i hi
       by_cases hlt : i < l.length
       case' pos =>
         have hP := True.intro
         obtain ⟨x, hx⟩ : ∃ x, l[i]? = some x := ⟨_, List.getElem?_eq_getElem hlt⟩
         have hg := map_get (f := TFeature.en) hx
         have ht := lt_true (f := TFeature.en) hlt
         have hn := next_ix hlt (by omega)
         have hgx := hg0 x (List.mem_of_getElem? hx)
         have hsx : x.sm := hgx.1
         have hcle : Clo (.agg x.en) := Clo.agg x.clo_en
         have hclP : Clo (.ro 2 (x.points.map TPoint.en)) := clo_list TPoint.clo_en
         have hln := filt_len l (fun x => decide (x.rank ≥ rk)) i
         have hln2 : (rkdTo l rk i).length ≤ i := hln
         rcases Bool.eq_false_or_eq_true (decide (x.rank ≥ rk)) with hk | hk
         case' inl =>
           have hm0 : rkdTo l rk (i + 1) = rkdTo l rk i ++ [x] := filt_y hx hk
           have hm : (rkdTo l rk (i + 1)).map TFeature.en = (rkdTo l rk i).map TFeature.en ++ [x.en] := by rw [hm0, List.map_append]; rfl
           have hm2 : (rkdTo l rk (i + 1)).length = (rkdTo l rk i).length + 1 := by rw [hm0]; simp
         case' inr => have hm0 : rkdTo l rk (i + 1) = rkdTo l rk i := filt_n hx hk
       case' neg =>
         have hQ := True.intro
         have ht := lt_false (f := TFeature.en) hlt
         have e : i = l.length := by omega
         subst e
         try rw [List.take_length]
         rw [rkdTo_all])
    | with_reducible refine ifP ?_
    | with_reducible refine ifN ?_) <;> (try dsimp only))
  all_goals first
    | (have _ := hP; (refine ⟨i + 1, _, hlt, by omega, ?_, by first | (rw [hm, hm2] <;> rfl) | (rw [hm0] <;> rfl), ?_, ?_⟩; (focus ((repeat' (first | exact Wk.nil | refine Wk.any ?_ | (with_reducible refine Wk.same ?_) | refine Wk.of ?_ ?_)) <;> (first | rfl | (rw [hn]; done) | (rw [hm2]; done) | (rw [hm0]; done)))); (focus (exact fitsA)); (focus (exact fits_row (clo_rows TFeature.clo_en)))))
    | (have _ := hQ; exact Fin.one rfl (RV.tmp (by rfl)) (clo_list TFeature.clo_en) ⟨rfl, rfl⟩)

theorem rkd_i (l : List TFeature) (rk : Int) (hS : isSource l = true) (hg0 : ∀ x ∈ l, x.gd) : VCalls Tryz.prog 159 [.ro 5 (l.map TFeature.en), I rk] (fun r M => r = .ro 5 ((rkd l rk).map TFeature.en) ∧ M = []) := by
  refine VB Tryz.func159 23 (fun E hE => ?_)
  have hclo : Clo (.ro 5 (l.map TFeature.en)) := clo_list TFeature.clo_en
  have hsl := src_len hS
  repeat' ((first
    | (refine iAL ?_; first | refine AL.any ?_ | refine AL.nil ?_)
    | (refine iAW ?_; first | (refine AW.freezeRet (t := 4) (id := 0) rfl rfl rfl rfl (clo_rows TFeature.clo_en) ?_; (try simp only [List.take_length]); try dsimp only [dput, List.set, cond_true, cond_false, Nat.zero_add, Nat.add_zero, Nat.reduceAdd, splice, List.take, List.drop, List.length, List.nil_append, List.cons_append, List.append, TPoint.en, TSegment.en, TBox.en, TFeature.en, TMeet.en, TPlace.en, TCover.en, TLabel.en, TPiece.en, TLevel.en, TChart.en, TReason.en, TEdit.en, TEntry.en, TEdition.en, TListing.en, TAtlas.en, TEvent.en, TWindow.en]) | (refine AW.c0 ?_; constructor) | refine AW.cT ?_ | refine AW.cF ?_ | (refine AW.c2 ?_ ?_ <;> (intro h; try simp only [bT, bF] at h)))
    | (refine AW.loopD hE (fun i : Nat => [.any, I rk, .any, .any, .any, .own 0 (rkdTo l rk i).length, .any, .any, .any, .ro 5 (l.map TFeature.en), I ((l.map TFeature.en).length : Int), I (i : Int), .any, .any, .any, .any, .any, .any, .any, .any, .any, .any, .any, .any, .any]) (fun i => [some ⟨81, 5, (rkdTo l rk i).length, false, (rkdTo l rk i).map TFeature.en⟩]) (fun i => l.length - i) (fun i => i ≤ l.length) 0 (by simp) ?_ (by first | rfl | (simp [fil_zero]; done)) ?_
       (focus ((repeat' (first | exact Wk.nil | refine Wk.any ?_ | (with_reducible refine Wk.same ?_) | refine Wk.of ?_ ?_)) <;> first | rfl | (rfl)))
       intro i hi
       by_cases hlt : i < l.length
       case' pos =>
         have hP := True.intro
         obtain ⟨x, hx⟩ : ∃ x, l[i]? = some x := ⟨_, List.getElem?_eq_getElem hlt⟩
         have hg := map_get (f := TFeature.en) hx
         have ht := lt_true (f := TFeature.en) hlt
         have hn := next_ix hlt (by omega)
         have hgx := hg0 x (List.mem_of_getElem? hx)
         have hsx : x.sm := hgx.1
         have hcle : Clo (.agg x.en) := Clo.agg x.clo_en
         have hclP : Clo (.ro 2 (x.points.map TPoint.en)) := clo_list TPoint.clo_en
         have hln := filt_len l (fun x => decide (x.rank ≥ rk)) i
         have hln2 : (rkdTo l rk i).length ≤ i := hln
         rcases Bool.eq_false_or_eq_true (decide (x.rank ≥ rk)) with hk | hk
         case' inl =>
           have hm0 : rkdTo l rk (i + 1) = rkdTo l rk i ++ [x] := filt_y hx hk
           have hm : (rkdTo l rk (i + 1)).map TFeature.en = (rkdTo l rk i).map TFeature.en ++ [x.en] := by rw [hm0, List.map_append]; rfl
           have hm2 : (rkdTo l rk (i + 1)).length = (rkdTo l rk i).length + 1 := by rw [hm0]; simp
         case' inr => have hm0 : rkdTo l rk (i + 1) = rkdTo l rk i := filt_n hx hk
       case' neg =>
         have hQ := True.intro
         have ht := lt_false (f := TFeature.en) hlt
         have e : i = l.length := by omega
         subst e
         try rw [List.take_length]
         rw [rkdTo_all])
    | with_reducible refine ifP ?_
    | with_reducible refine ifN ?_) <;> (try dsimp only))
  all_goals first
    | (have _ := hP; (refine ⟨i + 1, _, hlt, by omega, ?_, by first | (rw [hm, hm2] <;> rfl) | (rw [hm0] <;> rfl), ?_, ?_⟩; (focus ((repeat' (first | exact Wk.nil | refine Wk.any ?_ | (with_reducible refine Wk.same ?_) | refine Wk.of ?_ ?_)) <;> (first | rfl | (rw [hn]; done) | (rw [hm2]; done) | (rw [hm0]; done)))); (focus (exact fitsA)); (focus (exact fits_row (clo_rows TFeature.clo_en)))))
    | (have _ := hQ; exact Fin.one rfl (RV.tmp (by rfl)) (clo_list TFeature.clo_en) ⟨rfl, rfl⟩)

def cntTo (l : List TFeature) (i : Nat) : Nat := ((l.take i).map fun x => x.points.length).sum
def cntP (l : List TFeature) : Nat := (l.map fun x => x.points.length).sum
theorem cntTo_all (l : List TFeature) : cntTo l l.length = cntP l := by rw [cntTo, List.take_length]; rfl
theorem cntTo_succ {l : List TFeature} {i : Nat} {x : TFeature} (h : l[i]? = some x) : cntTo l (i + 1) = cntTo l i + x.points.length := by
  unfold cntTo
  rw [take_succ_of h, List.map_append, List.sum_append]
  simp
theorem cnt_le : ∀ {l : List TFeature}, (∀ x ∈ l, x.points.length ≤ 1048576) → (l.map fun x => x.points.length).sum ≤ l.length * 1048576
  | [], _ => by simp
  | x :: l, h => by
    have h1 := h x List.mem_cons_self
    have h2 := cnt_le (l := l) fun y hy => h y (List.mem_cons_of_mem _ hy)
    simp only [List.map_cons, List.sum_cons, List.length_cons]
    omega
theorem cntTo_le {l : List TFeature} (h : ∀ x ∈ l, x.points.length ≤ 1048576) (i : Nat) (hl : l.length ≤ 1048576) : cntTo l i ≤ 1099511627776 := by
  have h1 := cnt_le (l := l.take i) fun y hy => h y (List.mem_of_mem_take hy)
  have h2 : (l.take i).length ≤ 1048576 := by rw [List.length_take]; omega
  have h3 := Nat.mul_le_mul_right 1048576 h2
  exact Nat.le_trans h1 h3
def smX (l : List TPoint) (i : Nat) : Int := (l.take i).foldl (fun n p => IntKind.i64.wrap (n + p.x)) 0
def smY (l : List TPoint) (i : Nat) : Int := (l.take i).foldl (fun n p => IntKind.i64.wrap (n + p.y)) 0
def rmid (l : List TPoint) : TPoint := ⟨IntKind.i64.wrap ((smX l l.length).tdiv (l.length : Int)), IntKind.i64.wrap ((smY l l.length).tdiv (l.length : Int))⟩
theorem smX_succ {l : List TPoint} {i : Nat} {p : TPoint} (h : l[i]? = some p) : smX l (i + 1) = IntKind.i64.wrap (smX l i + p.x) := by
  unfold smX; rw [take_succ_of h, List.foldl_append]; rfl
theorem smY_succ {l : List TPoint} {i : Nat} {p : TPoint} (h : l[i]? = some p) : smY l (i + 1) = IntKind.i64.wrap (smY l i + p.y) := by
  unfold smY; rw [take_succ_of h, List.foldl_append]; rfl
theorem fold_bd {f : TPoint → Int} : ∀ (l : List TPoint) (n : Int), (∀ p ∈ l, 0 ≤ f p ∧ f p ≤ 200) → 0 ≤ n → n + 200 * l.length ≤ 100000 → 0 ≤ l.foldl (fun n p => IntKind.i64.wrap (n + f p)) n ∧ l.foldl (fun n p => IntKind.i64.wrap (n + f p)) n ≤ n + 200 * l.length
  | [], n, _, h0, _ => ⟨h0, by simp⟩
  | p :: l, n, h, h0, hb => by
    obtain ⟨a, b⟩ := h p List.mem_cons_self
    simp only [List.length_cons] at hb
    have e : IntKind.i64.wrap (n + f p) = n + f p := w64 (by omega) (by omega)
    have := fold_bd l (n + f p) (fun q hq => h q (List.mem_cons_of_mem _ hq)) (by omega) (by omega)
    rw [List.foldl_cons, e]
    simp only [List.length_cons]
    omega
theorem div_bd {s n : Int} (h0 : 0 ≤ s) (hn : 0 < n) (h : s ≤ 200 * n) : 0 ≤ IntKind.i64.wrap (s.tdiv n) ∧ IntKind.i64.wrap (s.tdiv n) ≤ 200 := by
  have e : s.tdiv n = s / n := Int.tdiv_eq_ediv_of_nonneg h0
  have h1 : 0 ≤ s / n := Int.ediv_nonneg h0 (by omega)
  have h2 : s / n ≤ 200 := Int.ediv_le_of_le_mul hn h
  rw [e, w64 (by omega) (by omega)]
  exact ⟨h1, h2⟩
theorem ring_pts {l : List TPoint} (h : isRing l = true) : ∀ p ∈ l, isp p.x p.y = true := fun p hp => by
  obtain ⟨i, hi⟩ := List.getElem?_of_mem hp
  have hil := (List.getElem?_eq_some_iff.1 hi).1
  have := ((ring_edges h).2.1 i hil).1
  unfold ptA at this
  rw [List.getD_eq_getElem?_getD, hi] at this
  exact this
theorem isp_of {x y : Int} (h1 : 0 ≤ x) (h2 : x ≤ 200) (h3 : 0 ≤ y) (h4 : y ≤ 200) : isp x y = true := by simp [isp, inr, *]
theorem rmid_isp {l : List TPoint} (h : isRing l = true) : isp (rmid l).x (rmid l).y = true := by
  have hp := ring_pts h
  have hn := isRing_len h
  have h1 := fold_bd (f := fun p => p.x) l 0 (fun p hp' => by have := isp_bd (hp p hp'); omega) (Int.le_refl _) (by omega)
  have h2 := fold_bd (f := fun p => p.y) l 0 (fun p hp' => by have := isp_bd (hp p hp'); omega) (Int.le_refl _) (by omega)
  have e1 : smX l l.length = l.foldl (fun n p => IntKind.i64.wrap (n + p.x)) 0 := by rw [smX, List.take_length]
  have e2 : smY l l.length = l.foldl (fun n p => IntKind.i64.wrap (n + p.y)) 0 := by rw [smY, List.take_length]
  have q1 := div_bd (n := (l.length : Int)) h1.1 (by omega) (by omega)
  have q2 := div_bd (n := (l.length : Int)) h2.1 (by omega) (by omega)
  unfold rmid
  rw [e1, e2]
  exact isp_of q1.1 q1.2 q2.1 q2.2
def midP (x : TFeature) : TPoint := x.points.getD (x.points.length / 2) ⟨0, 0⟩
def anP (x : TFeature) : TPoint := if (x.kind == 3) = true then rmid x.points else midP x
def ancOf (x : TFeature) : TPlace := ⟨x.id, anP x, x.rank⟩
def named (x : TFeature) : Bool := !(noName x.name)
def ancTo (l : List TFeature) (i : Nat) : List TPlace := ((l.take i).filter named).map ancOf
def ancs (l : List TFeature) : List TPlace := (l.filter named).map ancOf
theorem ancTo_all (l : List TFeature) : ancTo l l.length = ancs l := by rw [ancTo, List.take_length]; rfl
theorem ancTo_y {l : List TFeature} {i : Nat} {x : TFeature} (hx : l[i]? = some x) (h : noName x.name = false) : (ancTo l (i + 1)).map TPlace.en = (ancTo l i).map TPlace.en ++ [(ancOf x).en] ∧ (ancTo l (i + 1)).length = (ancTo l i).length + 1 := by
  unfold ancTo
  rw [filt_y hx (by unfold named; rw [h]; rfl)]
  simp
theorem ancTo_n {l : List TFeature} {i : Nat} {x : TFeature} (hx : l[i]? = some x) (h : noName x.name = true) : (ancTo l (i + 1)).map TPlace.en = (ancTo l i).map TPlace.en ∧ (ancTo l (i + 1)).length = (ancTo l i).length := by
  unfold ancTo
  rw [filt_n hx (by unfold named; rw [h]; rfl)]
  exact ⟨rfl, rfl⟩
theorem ancTo_len (l : List TFeature) (i : Nat) : (ancTo l i).length ≤ i := by
  unfold ancTo
  rw [List.length_map]
  exact filt_len l named i
theorem tdiv2 {n : Nat} (h : n ≤ 1048576) : IntKind.i64.wrap ((n : Int).tdiv 2) = ((n / 2 : Nat) : Int) := by
  have e : (n : Int).tdiv 2 = ((n / 2 : Nat) : Int) := (Int.ofNat_tdiv n 2).symm
  rw [e, w64 (by omega) (by omega)]
theorem mid_get {x : TFeature} (hf : isFeat x = true) (hl : x.points.length ≤ 1048576) : 0 ≤ IntKind.i64.wrap (((x.points.map TPoint.en).length : Int).tdiv 2) ∧ (x.points.map TPoint.en)[(IntKind.i64.wrap (((x.points.map TPoint.en).length : Int).tdiv 2)).toNat]? = some (midP x).en ∧ ((x.kind == 3) = false → isp (midP x).x (midP x).y = true) := by
  rw [List.length_map, tdiv2 hl]
  have hpos : 0 < x.points.length := by
    rcases kind_cases (feat_bd hf).2.2.2 with ⟨_, p, hp, _⟩ | ⟨_, _, _, h⟩ | ⟨_, _, _, h⟩
    · rw [hp]; simp
    · unfold isSimple at h
      rw [Bool.and_eq_true] at h
      have := (isLine_len h.1).1
      omega
    · have := (isRing_len h).1
      omega
  have hm : x.points.length / 2 < x.points.length := by omega
  have hg : x.points[x.points.length / 2]? = some (midP x) := by
    unfold midP
    rw [List.getD_eq_getElem?_getD, List.getElem?_eq_getElem hm]
    rfl
  refine ⟨by omega, by rw [Int.toNat_natCast, List.getElem?_map, hg]; rfl, fun hk => ?_⟩
  rcases kind_cases (feat_bd hf).2.2.2 with ⟨_, p, hp, hi⟩ | ⟨_, _, _, h⟩ | ⟨_, _, h, _⟩
  · unfold midP
    rw [hp]
    simpa using hi
  · unfold isSimple at h
    rw [Bool.and_eq_true] at h
    have := line_pt h.1 hm
    have e : ptg x.points (x.points.length / 2) = midP x := by
      have := ptg_get hm
      rw [hg] at this
      exact (Option.some.inj this).symm
    rw [e] at this
    exact this
  · rw [h] at hk; cases hk
theorem anP_isp {x : TFeature} (hf : isFeat x = true) (hl : x.points.length ≤ 1048576) : isp (anP x).x (anP x).y = true := by
  unfold anP
  split
  · rename_i h
    rcases kind_cases (feat_bd hf).2.2.2 with ⟨h1, _⟩ | ⟨_, _, h1, _⟩ | ⟨_, _, _, hr⟩
    · have e1 := beq_iff_eq.1 h
      have e2 := beq_iff_eq.1 h1
      omega
    · rw [h] at h1; cases h1
    · exact rmid_isp hr
  · rename_i h
    exact (mid_get hf hl).2.2 (by simpa using h)
theorem ancs_ok {l : List TFeature} (hS : isSource l = true) (hg : ∀ x ∈ l, x.gd) : PlOk (ancs l) := by
  obtain ⟨h1, h2, h3⟩ := (src_iff _).1 (src_filter hS named)
  refine ⟨by unfold ancs; rw [List.length_map]; exact h1, fun x hx => ?_, ?_⟩
  · unfold ancs at hx
    obtain ⟨y, hy, rfl⟩ := List.mem_map.1 hx
    have hf := h2 y hy
    exact ⟨(feat_bd hf).1, anP_isp hf (hg y (List.mem_filter.1 hy).1).1, (feat_bd hf).2.1⟩
  · unfold ancs
    rw [List.pairwise_map]
    exact h3
theorem an_cases {x : TFeature} (hf : isFeat x = true) : ((x.kind == 1) = true ∧ (x.kind == 2) = false ∧ (x.kind == 3) = false ∧ anP x = midP x ∧ (x.points.map TPoint.en)[(0 : Int).toNat]? = some (midP x).en) ∨
    ((x.kind == 1) = false ∧ (x.kind == 2) = true ∧ (x.kind == 3) = false ∧ anP x = midP x) ∨ ((x.kind == 1) = false ∧ (x.kind == 2) = false ∧ (x.kind == 3) = true ∧ anP x = rmid x.points ∧ isRing x.points = true) := by
  rcases kind_cases (feat_bd hf).2.2.2 with ⟨h1, p, hp, _⟩ | ⟨h1, h2, h3, _⟩ | ⟨h1, h2, h3, hr⟩
  · have e := beq_iff_eq.1 h1
    have h3 : (x.kind == 3) = false := by rw [e]; rfl
    refine .inl ⟨h1, by rw [e]; rfl, h3, by unfold anP; rw [if_neg (by rw [h3]; decide)], ?_⟩
    unfold midP
    rw [hp]; simp
  · exact .inr (.inl ⟨h1, h2, h3, by unfold anP; rw [if_neg (by rw [h3]; decide)]⟩)
  · exact .inr (.inr ⟨h1, h2, h3, by unfold anP; rw [if_pos h3], hr⟩)

def ovB (a b : TBox) : Bool := isBoxB a && isBoxB b && decide (wmax a.low.x b.low.x < wmin a.high.x b.high.x) && decide (wmax a.low.y b.low.y < wmin a.high.y b.high.y)
def ovI (a b : TBox) : Bool := isBoxB a && isBoxB b && decide (comX a b > 0) && decide (comY a b > 0)
theorem ovI_eq (a b : TBox) : ovI a b = ovB a b := by
  unfold ovI ovB
  cases ha : isBoxB a
  · simp
  · cases hb : isBoxB b
    · simp
    · have h1 := isBox_bd ha
      have h2 := isBox_bd hb
      unfold comX comY wsub wmin wmax
      rw [Bool.eq_iff_iff]
      simp only [Bool.and_eq_true, decide_eq_true_eq, true_and]
      rw [w64 (by split <;> split <;> omega) (by split <;> split <;> omega), w64 (by split <;> split <;> omega) (by split <;> split <;> omega)]
      repeat' split
      all_goals omega
theorem name_len {s : ByteArray} (h : isName s = true) : 1 ≤ s.size ∧ s.size ≤ 8 := by
  unfold isName inr at h
  simp at h
  omega
theorem name_max {s : ByteArray} (h : isName s = true) : s.size ≤ maxLen := by have := name_len h; rw [maxLen_eq]; omega
def lbx (p : TPoint) (s : ByteArray) (k : Int) : TBox :=
  ⟨⟨if (k == 1 || k == 3) = true then IntKind.i64.wrap (p.x - 2 * (s.size : Int)) else p.x, if (k == 2 || k == 3) = true then IntKind.i64.wrap (p.y - 3) else p.y⟩,
   ⟨if (k == 1 || k == 3) = true then p.x else IntKind.i64.wrap (p.x + 2 * (s.size : Int)), if (k == 2 || k == 3) = true then p.y else IntKind.i64.wrap (p.y + 3)⟩⟩
def lbOk (p : TPoint) (s : ByteArray) (k : Int) : Bool := isBoxB (lbx p s k)
def labB (p : TPoint) (s : ByteArray) (k : Int) : TBox := if lbOk p s k = true then lbx p s k else box0
def crTo (p : TPoint) (s : ByteArray) : Nat → List Int
  | 0 => []
  | i + 1 => crTo p s i ++ if lbOk p s (i : Int) = true then [(i : Int)] else []
def cors (p : TPoint) (s : ByteArray) : List Int := crTo p s 4
theorem crTo_y {p : TPoint} {s : ByteArray} {i : Nat} (h : lbOk p s (i : Int) = true) : (crTo p s (i + 1)).map enI = (crTo p s i).map enI ++ [[I (i : Int)]] ∧ (crTo p s (i + 1)).length = (crTo p s i).length + 1 := by
  rw [crTo, if_pos h]
  simp
theorem crTo_n {p : TPoint} {s : ByteArray} {i : Nat} (h : lbOk p s (i : Int) = false) : (crTo p s (i + 1)).map enI = (crTo p s i).map enI ∧ (crTo p s (i + 1)).length = (crTo p s i).length := by
  rw [crTo, if_neg (by rw [h]; decide), List.append_nil]
  exact ⟨rfl, rfl⟩
theorem crTo_len (p : TPoint) (s : ByteArray) : ∀ i, (crTo p s i).length ≤ i
  | 0 => Nat.le_refl _
  | i + 1 => by
    have := crTo_len p s i
    rw [crTo, List.length_append]
    split <;> simp <;> omega
theorem crTo_mem {p : TPoint} {s : ByteArray} {k : Int} : ∀ {i : Nat}, k ∈ crTo p s i → 0 ≤ k ∧ k < (i : Int) ∧ lbOk p s k = true
  | 0, h => by simp [crTo] at h
  | i + 1, h => by
    rw [crTo, List.mem_append] at h
    rcases h with h | h
    · obtain ⟨a, b, c⟩ := crTo_mem h
      exact ⟨a, by omega, c⟩
    · split at h
      · rename_i hk
        obtain rfl := List.mem_singleton.1 h
        exact ⟨by omega, by omega, hk⟩
      · simp at h
theorem cors_mem {p : TPoint} {s : ByteArray} {k : Int} (h : k ∈ cors p s) : inr k 0 3 = true ∧ lbOk p s k = true := by
  obtain ⟨a, b, c⟩ := crTo_mem h
  refine ⟨?_, c⟩
  simp [inr]
  omega
theorem cors_len (p : TPoint) (s : ByteArray) : (cors p s).length ≤ 4 := crTo_len p s 4
theorem in03 {k : Int} (h : inr k 0 3 = true) : k = 0 ∨ k = 1 ∨ k = 2 ∨ k = 3 := by simp [inr] at h; omega
theorem nat03 {i : Nat} (h : i < 4) : inr (i : Int) 0 3 = true := by simp [inr]; omega
def noOv (b t : TBox) : Bool := !ovB b t
def freeB (b : TBox) (tk : List TBox) : Bool := tk.all (noOv b)
def frK (p : TPoint) (s : ByteArray) (tk : List TBox) (k : Int) : Bool := freeB (labB p s k) tk
def frC (p : TPoint) (s : ByteArray) (tk : List TBox) : Int := ((cors p s).find? (frK p s tk)).getD (-1)
theorem find_at {α : Type} {p : α → Bool} : ∀ {l : List α} {i : Nat} {x : α}, l[i]? = some x → p x = true → (l.take i).all (fun y => !p y) = true → l.find? p = some x
  | [], i, x, hx, _, _ => by simp at hx
  | a :: l, 0, x, hx, hp, _ => by
    simp at hx
    subst hx
    rw [List.find?_cons, hp]
  | a :: l, i + 1, x, hx, hp, hn => by
    rw [List.take_succ_cons, List.all_cons, Bool.and_eq_true] at hn
    rw [List.find?_cons, (by simpa using hn.1 : p a = false)]
    exact find_at (by simpa using hx) hp hn.2
theorem find_no {α : Type} {p : α → Bool} {l : List α} (h : (l.take l.length).all (fun y => !p y) = true) : l.find? p = none := by
  rw [List.take_length, List.all_eq_true] at h
  exact List.find?_eq_none.2 fun x hx hp => by
    have := h x hx
    rw [hp] at this
    cases this
theorem frC_at {p : TPoint} {s : ByteArray} {tk : List TBox} {i : Nat} {k : Int} (hx : (cors p s)[i]? = some k) (hp : frK p s tk k = true) (hn : ((cors p s).take i).all (fun y => !frK p s tk y) = true) : frC p s tk = k := by rw [frC, find_at hx hp hn]; rfl
theorem frC_no {p : TPoint} {s : ByteArray} {tk : List TBox} (hn : ((cors p s).take (cors p s).length).all (fun y => !frK p s tk y) = true) : frC p s tk = -1 := by rw [frC, find_no hn]; rfl
theorem frC_ge {p : TPoint} {s : ByteArray} {tk : List TBox} : frC p s tk = -1 ∨ (inr (frC p s tk) 0 3 = true ∧ lbOk p s (frC p s tk) = true) := by
  unfold frC
  cases h : (cors p s).find? (frK p s tk) with
  | none => exact .inl rfl
  | some k => exact .inr (cors_mem (List.mem_of_find?_eq_some h))
theorem all_take_y' {α : Type} {l : List α} {p : α → Bool} {k : Nat} {y : α} (hy : l[k]? = some y) (ha : (l.take k).all p = true) (hp : p y = true) : (l.take (k + 1)).all p = true := (all_take_y hy ha).trans hp
theorem free_no {b t : TBox} {tk : List TBox} {i : Nat} (ht : tk[i]? = some t) (h : noOv b t = false) : freeB b tk = false := List.all_eq_false.2 ⟨t, List.mem_of_getElem? ht, by rw [h]; decide⟩

def nmOf (l : List TFeature) (k : Int) : ByteArray := match l[(fnd l k).toNat]? with
  | some f => f.name
  | none => ⟨#[]⟩
theorem anc_feat {l : List TFeature} (hS : isSource l = true) (hg : ∀ x ∈ l, x.gd) {x : TPlace} (h : x ∈ srtA (ancs l)) : ∃ (j : Nat) (f : TFeature), l[j]? = some f ∧ fnd l x.id = (j : Int) ∧ nmOf l x.id = f.name ∧ isName f.name = true ∧ isp x.at_.x x.at_.y = true := by
  have h1 := (srtA_perm _).mem_iff.1 h
  have hok := (ancs_ok hS hg).ok x h1
  obtain ⟨f, hf, rfl⟩ := List.mem_map.1 h1
  obtain ⟨hm, hn⟩ := List.mem_filter.1 hf
  obtain ⟨j, hj⟩ := List.getElem?_of_mem hm
  have e := fnd_src hS hj
  refine ⟨j, f, hj, e, ?_, ?_, hok.2.1⟩
  · show nmOf l f.id = _
    unfold nmOf
    rw [e, Int.toNat_natCast, hj]
  · have h2 := (feat_bd (src_feat hS hj)).2.2.1
    unfold named at hn
    simp only [Bool.or_eq_true] at h2
    rcases h2 with h2 | h2
    · rw [h2] at hn; cases hn
    · exact h2
def pnL (l : List TFeature) (out : List TLabel) (x : TPlace) : TLabel := ⟨x.id, nmOf l x.id, labB x.at_ (nmOf l x.id) (frC x.at_ (nmOf l x.id) (out.map (·.box)))⟩
def pnC (l : List TFeature) (out : List TLabel) (x : TPlace) : Bool := decide (frC x.at_ (nmOf l x.id) (out.map (·.box)) < 0)
def pnS (l : List TFeature) (out : List TLabel) (x : TPlace) : List TLabel := if pnC l out x = true then out else out ++ [pnL l out x]
def pnTo (l : List TFeature) (s : List TPlace) (i : Nat) : List TLabel := (s.take i).foldl (pnS l) []
def pnA (l : List TFeature) : List TLabel := (srtA (ancs l)).foldl (pnS l) []
theorem pnTo_all (l : List TFeature) : pnTo l (srtA (ancs l)) (srtA (ancs l)).length = pnA l := by rw [pnTo, List.take_length]; rfl
theorem pnTo_succ {l : List TFeature} {s : List TPlace} {i : Nat} {x : TPlace} (h : s[i]? = some x) : pnTo l s (i + 1) = pnS l (pnTo l s i) x := by
  unfold pnTo
  rw [take_succ_of h, List.foldl_append]
  rfl
theorem pnTo_y {l : List TFeature} {s : List TPlace} {i : Nat} {x : TPlace} (h : s[i]? = some x) (hc : pnC l (pnTo l s i) x = false) : pnTo l s (i + 1) = pnTo l s i ++ [pnL l (pnTo l s i) x] := by rw [pnTo_succ h, pnS, if_neg (by rw [hc]; decide)]
theorem pnTo_n {l : List TFeature} {s : List TPlace} {i : Nat} {x : TPlace} (h : s[i]? = some x) (hc : pnC l (pnTo l s i) x = true) : pnTo l s (i + 1) = pnTo l s i := by rw [pnTo_succ h, pnS, if_pos hc]
theorem pn_fold_sub (l : List TFeature) : ∀ (s : List TPlace) (p : List Int) (out : List TLabel), (out.map (·.id)).Sublist p → ((s.foldl (pnS l) out).map (·.id)).Sublist (p ++ s.map (·.id))
  | [], p, out, h => by simpa using h
  | x :: s, p, out, h => by
    rw [List.foldl_cons]
    have e : p ++ (x :: s).map (·.id) = (p ++ [x.id]) ++ s.map (·.id) := by simp
    rw [e]
    refine pn_fold_sub l s (p ++ [x.id]) _ ?_
    unfold pnS
    split
    · exact h.trans (List.sublist_append_left _ _)
    · rw [List.map_append]
      exact h.append (List.Sublist.refl _)
theorem pnTo_sub (l : List TFeature) (s : List TPlace) (i : Nat) : ((pnTo l s i).map (·.id)).Sublist ((s.take i).map (·.id)) := pn_fold_sub l (s.take i) [] [] (List.Sublist.refl _)
theorem pnTo_len (l : List TFeature) (s : List TPlace) (i : Nat) : (pnTo l s i).length ≤ i := by
  have := (pnTo_sub l s i).length_le
  rw [List.length_map, List.length_map, List.length_take] at this
  omega
theorem pnA_nodup {l : List TFeature} (hS : isSource l = true) (hg : ∀ x ∈ l, x.gd) : ((pnA l).map (·.id)).Pairwise (· ≠ ·) := by
  rw [← pnTo_all]
  have h1 : (srtA (ancs l)).Pairwise fun x y => x.id ≠ y.id := ((srtA_perm _).pairwise_iff fun h e => h e.symm).2 (ancs_ok hS hg).ne
  have h2 := pnTo_sub l (srtA (ancs l)) (srtA (ancs l)).length
  rw [List.take_length] at h2
  exact (List.pairwise_map.2 h1).sublist h2
theorem pnA_len {l : List TFeature} (hS : isSource l = true) (hg : ∀ x ∈ l, x.gd) : (pnA l).length ≤ 16 := by
  rw [← pnTo_all]
  have := pnTo_len l (srtA (ancs l)) (srtA (ancs l)).length
  rw [srtA_len] at *
  have h2 := (ancs_ok hS hg).len
  omega
def lbGt (x y : TLabel) : Bool := decide (y.id > x.id)
def insL (s : List TLabel) (x : TLabel) : List TLabel := insR (lbGt x) s x
def srtL (l : List TLabel) : List TLabel := l.foldl insL []
def slTo (l : List TFeature) (s : List TPlace) (i : Nat) : List TLabel := srtL (pnTo l s i)
def plN (l : List TFeature) : List TLabel := srtL (pnA l)
theorem insR_perm {α : Type} (p : α → Bool) (l : List α) (x : α) : (insR p l x).Perm (x :: l) := by
  unfold insR
  have h := List.perm_middle (a := x) (l₁ := l.take (posR p l)) (l₂ := l.drop (posR p l))
  rw [List.take_append_drop] at h
  simpa using h
theorem srtL_fold_perm : ∀ (l s : List TLabel), (l.foldl insL s).Perm (l ++ s)
  | [], s => List.Perm.refl _
  | x :: l, s => by
    rw [List.foldl_cons]
    exact (srtL_fold_perm l (insL s x)).trans (((insR_perm _ s x).append_left l).trans (List.perm_middle.trans (List.Perm.refl _)))
theorem srtL_perm (l : List TLabel) : (srtL l).Perm l := by
  have := srtL_fold_perm l []
  rwa [List.append_nil] at this
theorem srtL_len (l : List TLabel) : (srtL l).length = l.length := (srtL_perm l).length_eq
theorem srtL_app (l : List TLabel) (x : TLabel) : srtL (l ++ [x]) = insL (srtL l) x := by unfold srtL; rw [List.foldl_append]; rfl
theorem takeWhile_map' {α β : Type} (f : α → β) (p : β → Bool) : ∀ l : List α, (l.map f).takeWhile p = (l.takeWhile fun x => p (f x)).map f
  | [] => rfl
  | x :: l => by
    rw [List.map_cons, List.takeWhile_cons, List.takeWhile_cons, takeWhile_map' f p l]
    split <;> rfl
theorem posR_map {α β : Type} (f : α → β) (p : β → Bool) (l : List α) : posR p (l.map f) = posR (fun x => p (f x)) l := by
  unfold posR
  rw [← List.map_reverse, takeWhile_map', List.length_map, List.length_map]
theorem insR_map {α β : Type} (f : α → β) (p : β → Bool) (l : List α) (x : α) : (insR (fun y => p (f y)) l x).map f = insR p (l.map f) (f x) := by
  unfold insR
  rw [posR_map, List.map_append, List.map_append, List.map_take, List.map_drop]
  rfl
theorem insL_map (s : List TLabel) (x : TLabel) : (insL s x).map TLabel.en = (s.take (posR (lbGt x) s)).map TLabel.en ++ [x.en] ++ (s.drop (posR (lbGt x) s)).map TLabel.en := by
  unfold insL insR
  rw [List.map_append, List.map_append]
  rfl
theorem srtL_asc : ∀ (l s : List TLabel), (s.map (·.id)).Pairwise (· < ·) → ((l ++ s).map (·.id)).Pairwise (· ≠ ·) → ((l.foldl insL s).map (·.id)).Pairwise (· < ·)
  | [], s, hs, _ => hs
  | x :: l, s, hs, hd => by
    rw [List.foldl_cons]
    have e := insR_map (fun y : TLabel => y.id) (fun k => decide (k > x.id)) s x
    have hd2 : (x.id :: ((l ++ s).map (·.id))).Pairwise (· ≠ ·) := hd
    obtain ⟨h1, h2⟩ := List.pairwise_cons.1 hd2
    have hx : x.id ∉ s.map (·.id) := fun h => h1 x.id (by rw [List.map_append]; exact List.mem_append_right _ h) rfl
    refine srtL_asc l (insL s x) ?_ ?_
    · show ((insR _ s x).map _).Pairwise _
      have h3 := (insR_asc sto_int (p := fun k => decide (k > x.id)) (x := x.id) (fun y => by simp) hs).2.2 (fun h0 hh => hx (List.mem_of_getElem? hh))
      exact e ▸ h3.2
    · have hp : ((l ++ insL s x).map (·.id)).Perm (x.id :: ((l ++ s).map (·.id))) := (((insR_perm _ s x).append_left l).trans List.perm_middle).map (·.id)
      exact (hp.pairwise_iff fun h e => h e.symm).2 hd2
def lookL (l : List TLabel) (k : Int) : TLabel := (l.find? fun y => y.id == k).getD ⟨k, ⟨#[]⟩, box0⟩
theorem lookL_id (l : List TLabel) (k : Int) : (lookL l k).id = k := by
  unfold lookL
  cases h : l.find? fun y => y.id == k with
  | none => rfl
  | some y =>
    have h2 : (y.id == k) = true := List.find?_some (p := fun y : TLabel => y.id == k) h
    exact beq_iff_eq.1 h2
theorem lookL_mem {l : List TLabel} (hd : (l.map (·.id)).Pairwise (· ≠ ·)) {x : TLabel} (hx : x ∈ l) : lookL l x.id = x := by
  unfold lookL
  cases h : l.find? fun y => y.id == x.id with
  | none =>
    have := List.find?_eq_none.1 h x hx
    simp at this
  | some y =>
    have hy := List.mem_of_find?_eq_some h
    have h2 : (y.id == x.id) = true := List.find?_some (p := fun y : TLabel => y.id == x.id) h
    have e := beq_iff_eq.1 h2
    show y = x
    obtain ⟨i, hi⟩ := List.getElem?_of_mem hx
    obtain ⟨j, hj⟩ := List.getElem?_of_mem hy
    have hil := (List.getElem?_eq_some_iff.1 hi).1
    have hjl := (List.getElem?_eq_some_iff.1 hj).1
    have key : ∀ a b, a < b → b < l.length → (l[a]?).map (·.id) ≠ (l[b]?).map (·.id) := fun a b hab hb hh => by
      have := List.pairwise_iff_getElem.1 hd a b (by rw [List.length_map]; omega) (by rw [List.length_map]; exact hb) hab
      rw [List.getElem?_eq_getElem (by omega), List.getElem?_eq_getElem hb] at hh
      simp only [List.getElem_map] at this
      exact this (Option.some.inj hh)
    rcases Nat.lt_trichotomy i j with h1 | h1 | h1
    · exact absurd (by rw [hi, hj]; show some x.id = some y.id; rw [e]) (key i j h1 hjl)
    · subst h1; rw [hi] at hj; exact (Option.some.inj hj).symm
    · exact absurd (by rw [hi, hj]; show some y.id = some x.id; rw [e]) (key j i h1 hil)
theorem srtL_merge {l : List TLabel} (hd : (l.map (·.id)).Pairwise (· ≠ ·)) : ((l.map (·.id)).mergeSort fun x y => decide (x ≤ y)).map (lookL l) = srtL l := by
  have h1 := srtL_asc l [] List.Pairwise.nil (by rwa [List.append_nil])
  have e : ((l.map (·.id)).mergeSort fun x y => decide (x ≤ y)) = (srtL l).map (·.id) := asc_ext sto_int (merge_asc hd) h1 fun y => by
    rw [(List.mergeSort_perm _ _).mem_iff]
    exact ((srtL_perm l).map (·.id)).mem_iff.symm
  rw [e, List.map_map]
  have : ∀ x ∈ srtL l, (lookL l ∘ fun y : TLabel => y.id) x = x := fun x hx => lookL_mem hd ((srtL_perm l).mem_iff.1 hx)
  rw [List.map_congr_left this, List.map_id']
theorem look_all {l : List TLabel} (hd : (l.map (·.id)).Pairwise (· ≠ ·)) : (l.map (·.id)).map (fun k => (lookL l k).en) = l.map TLabel.en := by
  rw [List.map_map]
  exact List.map_congr_left fun x hx => by show (lookL l x.id).en = _; rw [lookL_mem hd hx]
theorem far2_ge (p q : TPoint) : 0 ≤ far2 p q := by
  unfold far2
  have e : ∀ d : Int, 0 ≤ d * d := fun d => by
    have e : d * d = (d.natAbs : Int) * (d.natAbs : Int) := Int.natAbs_mul_self.symm.trans (by rw [Int.natCast_mul])
    rw [e, ← Int.natCast_mul]
    exact Int.natCast_nonneg _
  have h1 := e (p.x - q.x)
  have h2 := e (p.y - q.y)
  omega
theorem kept0_fold : ∀ (s out : List TPlace), s.foldl (keptS 0) out = out ++ s
  | [], out => (List.append_nil _).symm
  | x :: s, out => by
    have h : out.all (farOk 0 x) = true := List.all_eq_true.2 fun y _ => by
      unfold farOk
      have := far2_ge y.at_ x.at_
      simp
      omega
    rw [List.foldl_cons, keptS, if_pos h, kept0_fold s, List.append_assoc]
    rfl
theorem kept0 (s : List TPlace) : kept s 0 = s := by
  unfold kept
  rw [kept0_fold]
  rfl
theorem slTo_len (l : List TFeature) (s : List TPlace) (i : Nat) : (slTo l s i).length ≤ i := by
  unfold slTo
  rw [srtL_len]
  exact pnTo_len l s i
theorem slTo_y {l : List TFeature} {s : List TPlace} {i : Nat} {x : TPlace} (h : s[i]? = some x) (hc : pnC l (pnTo l s i) x = false) : slTo l s (i + 1) = insL (slTo l s i) (pnL l (pnTo l s i) x) := by
  unfold slTo
  rw [pnTo_y h hc, srtL_app]
theorem slTo_n {l : List TFeature} {s : List TPlace} {i : Nat} {x : TPlace} (h : s[i]? = some x) (hc : pnC l (pnTo l s i) x = true) : slTo l s (i + 1) = slTo l s i := by
  unfold slTo
  rw [pnTo_n h hc]
theorem slTo_all (l : List TFeature) : slTo l (srtA (ancs l)) (srtA (ancs l)).length = plN l := by unfold slTo; rw [pnTo_all]; rfl

def isLevel (v : TLevel) : Bool := inr v.rank 0 9 && inr v.far 0 200 && inr v.least 0 100000
def TAtlas.gd (a : TAtlas) : Prop := (a.log.length ≤ 1048576 ∧ ∀ e ∈ a.log, e.feature.gd) ∧ a.levels.length ≤ 1048576 ∧ (a.editions.length ≤ 1048576 ∧ ∀ e ∈ a.editions, e.source.length ≤ 1048576 ∧ ∀ x ∈ e.source, x.gd) ∧ a.cover.cells.size ≤ maxLen
theorem isLevel_s (v : TLevel) : VCalls Tryz.prog 133 [.agg v.en] (fun r M => r = B (isLevel v) ∧ M = []) := by
  refine VB Tryz.func133 15 (fun E hE => ?_)
  dsimp only [TLevel.en]
  repeat' ((first
    | (refine iAL ?_; first | refine AL.any ?_ | refine AL.any (h := POp.k Tryz.func96 (hc := inr_s _ _ _)) ?_ | refine AL.U ?_ | refine AL.F ?_ | refine AL.T ?_ | refine AL.T (h := POp.k Tryz.func96 (hc := inr_s _ _ _)) ?_ | refine AL.W ?_ | refine AL.W (h := fun h => by (try rw [h]); exact POp.k Tryz.func96 (hc := inr_s _ _ _)) ?_ | refine AL.nil ?_)
    | (refine iAW ?_; first | (refine AW.c0 ?_; constructor))) <;> (try dsimp only))
  all_goals exact Fin.one rfl (RV.tmp (by rfl)) (clo_c _) ⟨by first | rfl | (simp only [isLevel, Bool.and_assoc]; done), rfl⟩

theorem isLevel_i (v : TLevel) : VCalls Tryz.prog 139 [.agg v.en] (fun r M => r = B (isLevel v) ∧ M = []) := by
  refine VB Tryz.func139 15 (fun E hE => ?_)
  dsimp only [TLevel.en]
  repeat' ((first
    | (refine iAL ?_; first | refine AL.any ?_ | refine AL.any (h := POp.k Tryz.func145 (hc := inr_v _ _ _)) ?_ | refine AL.U ?_ | refine AL.F ?_ | refine AL.T ?_ | refine AL.T (h := POp.k Tryz.func145 (hc := inr_v _ _ _)) ?_ | refine AL.W ?_ | refine AL.W (h := fun h => by (try rw [h]); exact POp.k Tryz.func145 (hc := inr_v _ _ _)) ?_ | refine AL.nil ?_)
    | (refine iAW ?_; first | (refine AW.c0 ?_; constructor))) <;> (try dsimp only))
  all_goals exact Fin.one rfl (RV.tmp (by rfl)) (clo_c _) ⟨by first | rfl | (simp only [isLevel, Bool.and_assoc]; done), rfl⟩


theorem isLevT_s (v : TLevel) (h : isLevel v = true) : VCalls Tryz.prog 133 [.agg v.en] (fun r M => r = B true ∧ M = []) := h ▸ isLevel_s v
theorem isLevT_i (v : TLevel) (h : isLevel v = true) : VCalls Tryz.prog 139 [.agg v.en] (fun r M => r = B true ∧ M = []) := h ▸ isLevel_i v

theorem shown_s (l : List TFeature) (v : TLevel) (hS : isSource l = true) (hg0 : ∀ x ∈ l, x.gd) (hV : isLevel v = true) : VCalls Tryz.prog 134 [.ro 5 (l.map TFeature.en), .agg v.en] (fun r M => r = .ro 1 ((shown l v).map enI) ∧ M = []) := by
  refine VB Tryz.func134 56 (fun E hE => ?_)
  have hclo : Clo (.ro 5 (l.map TFeature.en)) := clo_list TFeature.clo_en
  have hsl := src_len hS
  have hS2 := rkd_src hS v.rank
  have hg2 := rkd_gd hg0 v.rank
  have hsl2 := src_len hS2
  have hp := plsOf_ok hS2
  have hpl := hp.len
  have hfar : inr v.far 0 200 = true := by have := hV; unfold isLevel at this; simp only [Bool.and_eq_true] at this; exact this.1.2
  have htl := thn_len hS v
  have hclR : Clo (.ro 5 ((rkd l v.rank).map TFeature.en)) := clo_list TFeature.clo_en
  have hclT : Clo (.ro 1 ((thn l v).map enI)) := clo_list clo_enI
  have hclL : Clo (.agg v.en) := Clo.agg v.clo_en
  have hclp : Clo (.ro 4 ((plsOf (rkd l v.rank)).map TPlace.en)) := clo_list TPlace.clo_en
  dsimp only [TLevel.en]
  repeat' ((first
    | (refine iAL ?_; first | refine AL.any ?_ | refine AL.any (h := POp.k Tryz.func78 (hc := isSrcT_s l (by omega) hg0 hS)) ?_ | refine AL.any (h := POp.k Tryz.func199 (hc := rkd_s l v.rank hS hg0)) ?_ | refine AL.any (h := POp.k Tryz.func200 (hc := thin_s (plsOf (rkd l v.rank)) v.far hp hfar)) ?_ | refine AL.U ?_ | refine AL.F ?_ | refine AL.T ?_ | refine AL.T (h := POp.k Tryz.func133 (hc := isLevT_s v hV)) ?_ | refine AL.T (h := POp.k Tryz.func135 (hc := has_s (thn l v) x.id (by omega))) ?_ | refine AL.W ?_ | refine AL.W (h := fun h => by (try rw [h]); exact POp.k Tryz.func133 (hc := isLevT_s v hV)) ?_ | refine AL.W (h := fun h => by (try rw [h]); exact POp.k Tryz.func135 (hc := has_s (thn l v) x.id (by omega))) ?_ | refine AL.nil ?_)
    | ((with_reducible show DL ..); first | refine DL.any ?_ | refine DL.any (h := POp.k Tryz.func201 (hc := pls_s (rkd l v.rank) hS2 hg2)) ?_ | refine DL.nil ?_)
    | (refine iAW ?_; first | (refine AW.freezeRet (t := 4) (id := 1) rfl rfl rfl rfl (clo_rows clo_enI) ?_; (try simp only [List.take_length]); try dsimp only [dput, List.set, cond_true, cond_false, Nat.zero_add, Nat.add_zero, Nat.reduceAdd, splice, List.take, List.drop, List.length, List.nil_append, List.cons_append, List.append, TPoint.en, TSegment.en, TBox.en, TFeature.en, TMeet.en, TPlace.en, TCover.en, TLabel.en, TPiece.en, TLevel.en, TChart.en, TReason.en, TEdit.en, TEntry.en, TEdition.en, TListing.en, TAtlas.en, TEvent.en, TWindow.en]) | (refine AW.c0 ?_; constructor) | refine AW.dr (id := 5) 4 ?_ | refine AW.cT ?_ | refine AW.cF ?_ | (refine AW.c2 ?_ ?_ <;> (intro h; try simp only [bT, bF] at h)))
    | (refine AW.loopD hE (fun i : Nat => [.any, .any, .any, .ref 0 0 3 0 0, .any, .own 1 (shTo l v i).length, .ro 5 ((rkd l v.rank).map TFeature.en), .ro 1 ((thn l v).map enI), I (i : Int), .any, .any, .any, .any, .any, .any, .any, .any, .any, .any, .any, .any, .any, .any, .any, .any, .any, .any, .any, .any, .any, .any, .any, .any, .any, .any, .any, .any, .any, .any, .any, .any, .any, .any, .any, .any, .any, .any, .any, .any, .any, .any, .any, .any, .any, .any, .any, .any, .any]) (fun i => [some ⟨47, 3, 0, true, [v.en]⟩, some ⟨3, 1, (shTo l v i).length, false, (shTo l v i).map enI⟩]) (fun i => (rkd l v.rank).length - i) (fun i => i ≤ (rkd l v.rank).length) 0 (by simp) ?_ (by first | rfl | (simp [fil_zero]; done)) ?_
       (focus ((repeat' (first | exact Wk.nil | refine Wk.any ?_ | (with_reducible refine Wk.same ?_) | refine Wk.of ?_ ?_)) <;> first | rfl | (rfl)))
       intro i hi
       by_cases hlt : i < (rkd l v.rank).length
       case' pos =>
         have hP := True.intro
         obtain ⟨x, hx⟩ : ∃ x, (rkd l v.rank)[i]? = some x := ⟨_, List.getElem?_eq_getElem hlt⟩
         have hg := map_get (f := TFeature.en) hx
         have ht := lt_true (f := TFeature.en) hlt
         have hn := next_ix hlt (by omega)
         have hgx := hg2 x (List.mem_of_getElem? hx)
         have hcle : Clo (.agg x.en) := Clo.agg x.clo_en
         have hclP : Clo (.ro 2 (x.points.map TPoint.en)) := clo_list TPoint.clo_en
         have hln := shTo_len l v i
         rcases Bool.eq_false_or_eq_true (x.kind != 1) with hk | hk
         case' inl => obtain ⟨hm, hm2⟩ := shTo_y hx (by rw [shP, hk]; rfl)
         case' inr => rcases Bool.eq_false_or_eq_true (has (thn l v) x.id) with hh | hh
         case' inr.inl => obtain ⟨hm, hm2⟩ := shTo_y hx (by rw [shP, hk, hh]; rfl)
         case' inr.inr => obtain ⟨hm, hm2⟩ := shTo_n hx (by rw [shP, hk, hh]; rfl)
       case' neg =>
         have hQ := True.intro
         have ht := lt_false (f := TFeature.en) hlt
         have e : i = (rkd l v.rank).length := by omega
         subst e
         try rw [List.take_length]
         rw [shTo_all])
    | with_reducible refine ifP ?_
    | with_reducible refine ifN ?_) <;> (try dsimp only))
  all_goals first
    | (have _ := hP; (refine ⟨i + 1, _, hlt, by omega, ?_, by rw [hm, hm2] <;> rfl, ?_, ?_⟩; (focus ((repeat' (first | exact Wk.nil | refine Wk.any ?_ | (with_reducible refine Wk.same ?_) | refine Wk.of ?_ ?_)) <;> (first | rfl | (rw [hn]; done) | (rw [hm2]; done)))); (focus (exact fitsA)); (focus (exact fitsM_cons (clo_one v.clo_en) (fitsM_cons (clo_rows clo_enI) (FitsM.nil _))))))
    | (have _ := hQ; exact Fin.one rfl (RV.tmp (by rfl)) (clo_list clo_enI) ⟨rfl, rfl⟩)

theorem shown_i (l : List TFeature) (v : TLevel) (hS : isSource l = true) (hg0 : ∀ x ∈ l, x.gd) (hV : isLevel v = true) : VCalls Tryz.prog 140 [.ro 5 (l.map TFeature.en), .agg v.en] (fun r M => r = .own 0 0 ∧ M = [some ⟨3, 1, 0, false, (shown l v).map enI⟩]) := by
  refine VB Tryz.func140 44 (fun E hE => ?_)
  have hclo : Clo (.ro 5 (l.map TFeature.en)) := clo_list TFeature.clo_en
  have hsl := src_len hS
  have hS2 := rkd_src hS v.rank
  have hg2 := rkd_gd hg0 v.rank
  have hsl2 := src_len hS2
  have hp := plsOf_ok hS2
  have hpl := hp.len
  have hfar : inr v.far 0 200 = true := by have := hV; unfold isLevel at this; simp only [Bool.and_eq_true] at this; exact this.1.2
  have htl := thn_len hS v
  have hclR : Clo (.ro 5 ((rkd l v.rank).map TFeature.en)) := clo_list TFeature.clo_en
  have hclT : Clo (.ro 1 ((thn l v).map enI)) := clo_list clo_enI
  have hclL : Clo (.agg v.en) := Clo.agg v.clo_en
  have hclp : Clo (.ro 4 ((plsOf (rkd l v.rank)).map TPlace.en)) := clo_list TPlace.clo_en
  dsimp only [TLevel.en]
  repeat' ((first
    | (refine iAL ?_; first | refine AL.any ?_ | refine AL.any (h := POp.H [2] Tryz.func62 (hc := sortI (npTo l v (rkd l v.rank).length) (by have := npTo_len hS v (rkd l v.rank).length; omega))) ?_ | refine AL.any (h := POp.k Tryz.func80 (hc := isSrcT_i l (by omega) hg0 hS)) ?_ | refine AL.any (h := POp.k Tryz.func159 (hc := rkd_i l v.rank hS hg0)) ?_ | refine AL.any (h := POp.O Tryz.func208 (hc := thin_i (plsOf (rkd l v.rank)) v.far hp hfar)) ?_ | refine AL.U ?_ | refine AL.F ?_ | refine AL.T ?_ | refine AL.T (h := POp.k Tryz.func139 (hc := isLevT_i v hV)) ?_ | refine AL.W ?_ | refine AL.W (h := fun h => by (try rw [h]); exact POp.k Tryz.func139 (hc := isLevT_i v hV)) ?_ | refine AL.nil ?_)
    | ((with_reducible show DL ..); first | refine DL.any ?_ | refine DL.any (h := POp.k Tryz.func158 (hc := pls_i (rkd l v.rank) hS2 hg2)) ?_ | refine DL.nil ?_)
    | (refine iAW ?_; first | (refine AW.c0 ?_; constructor) | refine AW.dr (id := 5) 4 ?_ | refine AW.cT ?_ | refine AW.cF ?_ | (refine AW.c2 ?_ ?_ <;> (intro h; try simp only [bT, bF] at h)))
    | (refine AW.loopD hE (fun i : Nat => [.any, .any, .any, .any, .any, .own 2 ((((rkd l v.rank).take i).filter fun x => x.kind != 1).length), .any, .any, .any, .any, .any, .any, .any, .any, .any, .any, .any, .any, .any, .any, .any, .any, .any, .any, .any, .any, .any, .any, .ro 5 ((rkd l v.rank).map TFeature.en), I (((rkd l v.rank).map TFeature.en).length : Int), I (i : Int), .any, .any, .any, .any, .any, .any, .any, .any, .any, .any, .any, .any, .any, .any, .any]) (fun i => [some ⟨47, 3, 0, true, [v.en]⟩, some ⟨3, 1, 0, false, ([]).map enI⟩, some ⟨3, 1, ((((rkd l v.rank).take i).filter fun x => x.kind != 1).length), false, (npTo l v i).map enI⟩]) (fun i => (rkd l v.rank).length - i) (fun i => i ≤ (rkd l v.rank).length) 0 (by simp) ?_ (by first | rfl | ((simp [npTo, thn, TLevel.en]))) ?_
       (focus ((repeat' (first | exact Wk.nil | refine Wk.any ?_ | (with_reducible refine Wk.same ?_) | refine Wk.of ?_ ?_)) <;> first | rfl | (first | rfl | (simp [npTo, thn]))))
       intro i hi
       by_cases hlt : i < (rkd l v.rank).length
       case' pos =>
         have hP := True.intro
         obtain ⟨x, hx⟩ : ∃ x, (rkd l v.rank)[i]? = some x := ⟨_, List.getElem?_eq_getElem hlt⟩
         have hg := map_get (f := TFeature.en) hx
         have ht := lt_true (f := TFeature.en) hlt
         have hn := next_ix hlt (by omega)
         have hgx := hg2 x (List.mem_of_getElem? hx)
         have hcle : Clo (.agg x.en) := Clo.agg x.clo_en
         have hclP : Clo (.ro 2 (x.points.map TPoint.en)) := clo_list TPoint.clo_en
         rcases Bool.eq_false_or_eq_true (x.kind != 1) with hk | hk
         case' inl =>
           have hc0 : ((((rkd l v.rank).take (i + 1)).filter fun x => x.kind != 1).length) = ((((rkd l v.rank).take i).filter fun x => x.kind != 1).length) + 1 := by rw [filt_y hx hk]; simp
           have hm := npTo_y hx hk
         case' inr =>
           have hc0 : ((((rkd l v.rank).take (i + 1)).filter fun x => x.kind != 1).length) = ((((rkd l v.rank).take i).filter fun x => x.kind != 1).length) := by rw [filt_n hx hk]
           have hm0 := npTo_n hx hk
         all_goals have hnl := npTo_len hS v i
       case' neg =>
         have hQ := True.intro
         have ht := lt_false (f := TFeature.en) hlt
         have e : i = (rkd l v.rank).length := by omega
         subst e
         try rw [List.take_length])
    | with_reducible refine ifP ?_
    | with_reducible refine ifN ?_) <;> (try dsimp only))
  all_goals first
    | (have _ := hP; (refine ⟨i + 1, _, hlt, by omega, ?_, by first | (rw [hm, hc0] <;> rfl) | (rw [hm0, hc0] <;> rfl), ?_, ?_⟩; (focus ((repeat' (first | exact Wk.nil | refine Wk.any ?_ | (with_reducible refine Wk.same ?_) | refine Wk.of ?_ ?_)) <;> (first | rfl | (rw [hn]; done) | (rw [hc0]; done)))); (focus (exact fitsA)); (focus (exact fitsM_cons (clo_one v.clo_en) (fitsM_cons clo_rows_nil (fitsM_cons (clo_rows clo_enI) (FitsM.nil _)))))))
    | (have _ := hQ; exact Fin.r1 [2] rfl (RV.tmp (by rfl)) ⟨rfl, by rw [← shown_merge hS v] <;> rfl⟩)

theorem shown_i' (l : List TFeature) (v : TLevel) (hS : isSource l = true) (hg0 : ∀ x ∈ l, x.gd) (hV : isLevel v = true) : VCalls Tryz.prog 140 [.ro 5 (l.map TFeature.en), .agg v.en] (fun r M => r = .ro 1 ((shown l v).map enI) ∧ M = []) := VCalls.frz (shown_i l v hS hg0 hV) vwlT
def chIn (l : List TFeature) (v : TLevel) (x : TFeature) : Bool := has (shown l v) x.id
def chsTo (l : List TFeature) (v : TLevel) (i : Nat) : List TFeature := (l.take i).filter (chIn l v)
def chs (l : List TFeature) (v : TLevel) : List TFeature := l.filter (chIn l v)
theorem chsTo_all (l : List TFeature) (v : TLevel) : chsTo l v l.length = chs l v := by rw [chsTo, List.take_length]; rfl
theorem chsTo_y {l : List TFeature} {v : TLevel} {i : Nat} {x : TFeature} (hx : l[i]? = some x) (h : has (shown l v) x.id = true) : (chsTo l v (i + 1)).map TFeature.en = (chsTo l v i).map TFeature.en ++ [x.en] ∧ (chsTo l v (i + 1)).length = (chsTo l v i).length + 1 := by
  unfold chsTo
  rw [filt_y hx h]
  simp
theorem chsTo_n {l : List TFeature} {v : TLevel} {i : Nat} {x : TFeature} (hx : l[i]? = some x) (h : has (shown l v) x.id = false) : (chsTo l v (i + 1)).map TFeature.en = (chsTo l v i).map TFeature.en ∧ (chsTo l v (i + 1)).length = (chsTo l v i).length := by
  unfold chsTo
  rw [filt_n hx h]
  exact ⟨rfl, rfl⟩
theorem chsTo_len (l : List TFeature) (v : TLevel) (i : Nat) : (chsTo l v i).length ≤ i := filt_len l (chIn l v) i
def chF (l : List TFeature) (v : TLevel) : List TFeature := shAll (chs l v) v.least
def chart (l : List TFeature) (v : TLevel) : TChart := ⟨chF l v, plN (chF l v)⟩
def chtOk (l : List TFeature) (v : TLevel) : Bool := isSource l && isLevel v
theorem chs_src {l : List TFeature} (hS : isSource l = true) (v : TLevel) : isSource (chs l v) = true := src_filter hS _
theorem chs_gd {l : List TFeature} (hg : ∀ x ∈ l, x.gd) (v : TLevel) : ∀ x ∈ chs l v, x.gd := fun x hx => hg x (List.mem_filter.1 hx).1
theorem chF_src {l : List TFeature} (hS : isSource l = true) (v : TLevel) : isSource (chF l v) = true := shAll_src _ (chs_src hS v)
theorem chF_gd {l : List TFeature} (hg : ∀ x ∈ l, x.gd) (v : TLevel) : ∀ x ∈ chF l v, x.gd := shAll_gd _ (chs_gd hg v)
theorem chF_len {l : List TFeature} (hS : isSource l = true) (v : TLevel) : (chF l v).length ≤ 16 := src_len (chF_src hS v)
theorem shown_le {l : List TFeature} (hS : isSource l = true) (v : TLevel) : (shown l v).length ≤ 16 := by
  unfold shown
  rw [List.length_map]
  exact Nat.le_trans (List.length_filter_le _ _) (src_len (rkd_src hS v.rank))

end Go.Proofs.YtpffahmmklpifaaGreat.Abs

/- A nil slice grown: what slices.Grow gives. -/
namespace Go.Proofs.YtpffahmmklpifaaGreat.Abs
open Go.Proofs Go.RowKit
set_option linter.unusedVariables false
set_option linter.unusedSimpArgs false
set_option maxRecDepth 100000
set_option maxHeartbeats 2000000
open Go.Shelf Go.Lib
set_option maxHeartbeats 4000000 in
set_option maxRecDepth 100000 in
theorem growP (m : Nat) (h0 : 0 < m) (hm : m ≤ 1048576) (w : World) : Calls Tryz.prog 340 #[.slice none 0 0, .int .i64 (m : Int)] w fun e w' => ∃ G cur, e = .returned (.slice (some ⟨w.heap.size, 0, none⟩) 0 G) ∧ w' = w.drew.alloc (.cells cur 141) ∧ cur.size = G * 2 ∧ G ≤ maxLen := by
  have mixed : Tryz.prog.follows .mixedOrders = true := by kernel_rfl
  obtain ⟨i0, z, hsl, hi0, hz0, hsz, hby, hzc, _, _, hs0⟩ := rwk_inv rwk79
  have u3 : Tryz.prog.underlying 3 = some (.int .i64) := Tryz.underlying3
  have h1 : ¬ ((m : Int) < 0) := by omega
  have h2 : wrap64 ((0 : Int) - (0 : Int)) = 0 := by unfold wrap64; omega
  have h3 : wrap64 ((m : Int) - 0) = (m : Int) := by unfold wrap64; omega
  have h4 : (m : Int) > 0 := by omega
  have hG := grownCap_ge w m 0 141
  have hG2 := grownCap_le_maxLen w m 0 141 (by rw [maxLen_eq]; omega)
  have hrz : ∀ ty, (Builtin.append_ #[79, 3] ty #[.slice none 0 0, .int .i64 (m : Int)]).run Tryz.prog w = .ok (.slice (some ⟨w.heap.size, 0, none⟩) m (grownCap w m 0 141)) (w.drew.alloc (.cells ((#[] : Array Value) ++ Builtin.zeroCells z.cells m ++ Builtin.zeroCells z.cells (grownCap w m 0 141 - m)) 141)) := fun ty => by
    have h := Lib.run_append_grow_zeros w 79 3 ty 141 i0 z .i64 .i64 hsl u3 hi0 hz0 none 0 0 [] (run_firstCells_none w.drew i0.size 0 0 0) m h0 (by omega) (by omega) (by omega) (by rw [hby]; omega) (by rw [Nat.zero_add]; exact growslice_fits h0 (by rw [hby]; omega))
    simp only [Nat.zero_add] at h
    exact h
  obtain ⟨G, hGe⟩ : ∃ G, G = grownCap w m 0 141 := ⟨_, rfl⟩
  obtain ⟨cur, hcu⟩ : ∃ cur, cur = (#[] : Array Value) ++ Builtin.zeroCells z.cells m ++ Builtin.zeroCells z.cells (G - m) := ⟨_, rfl⟩
  rw [← hGe] at hrz hG hG2
  have hcs : cur.size = G * 2 := by
    rw [hcu]
    simp only [Array.size_append, size_zeroCells, hzc, Array.size_empty, Nat.zero_add]
    omega
  rw [← hcu] at hrz
  have hG63 : G ≤ 9223372036854775807 := by rw [maxLen_eq] at hG2; exact hG2
  clear hGe hcu hzc hby hsz
  go_enter Tryz.func340, Tryz.ntmps340
  go_wp2_with (at_builtin; refine Lib.wpList_append_run _ rfl _ _ _ _ rfl _ _ rfl rfl _ _ (hrz _) ?_)
  all_goals (go_ret; exact ⟨G, rfl, cur, rfl, hcs, hG2⟩)
theorem grow_v (m : Nat) (h0 : 0 < m) (hm : m ≤ 1048576) : VCalls Tryz.prog 340 [.c (.slice none 0 0), I (m : Int)] (fun r M => r = .own 0 0 ∧ M = [some ⟨141, 2, 0, false, []⟩]) := by
  intro E vals hM hh hsl
  obtain rfl := Slots.plain (vs := [.slice none 0 0, .int .i64 (m : Int)]) hsl
  refine (growP m h0 hm E.win).mono ?_
  rintro e w' ⟨G, cur, rfl, rfl, hcs, hG⟩
  have hg : E.win.grownBy (E.win.drew.alloc (.cells cur 141)) none := by
    have g := World.grownBy_alloc E.win.drew (.cells cur 141) none
    exact ⟨g.1, g.2, g.3, g.4, g.5⟩
  have hβ : E.β = [] := List.length_eq_zero_iff.1 hh.len
  have hrow := hh.addRow hg (t := 141) (sz := 2) (v := .slice (some ⟨E.win.heap.size, 0, none⟩) 0 G) (es := []) (xs := [])
    ⟨rfl, .inr ⟨E.win.heap.size, G, cur, rfl, hh.bs, heap_alloc_new E.win.drew _, Nat.zero_le _, hG, hcs, by simp⟩⟩ (fun k hk => by simp [blockOf] at hk; omega) ⟨rfl, fun i r hr => by simp at hr⟩
  refine ⟨_, .own 0 0, _, E.Fx, _, rfl, ⟨rfl, rfl⟩, hrow.1, ⟨?_, hrow.2.size, fun k hk => .inl hk, ?_⟩, ?_⟩
  · rw [hM]; exact hrow.2.mv
  · intro id bk v k g1 g2 g3
    rcases hrow.2.own id bk v k g1 g2 g3 with h | ⟨_, _, _, h, _⟩
    · exact .inl h
    · simp at h
  · refine .own rfl (by simp [gens]) (fun g1 hg => by simp [gens] at hg; omega) (fun _ => ⟨Hd.flat _, ?_, rfl⟩)
    rw [hβ]
    rfl

end Go.Proofs.YtpffahmmklpifaaGreat.Abs

/- The walks of points dropped (reference). -/
namespace Go.Proofs.YtpffahmmklpifaaGreat.Abs
open Go.Proofs Go.RowKit
set_option linter.unusedVariables false
set_option linter.unusedSimpArgs false
set_option maxRecDepth 100000
set_option maxHeartbeats 2000000
attribute [local irreducible] OpA AL AW DL DLM DLR DLS QOp POp VCalls VCallsI
theorem crnA_s (l : List TPoint) (i : Nat) (hl : l.length ≤ 1048576) : VCalls Tryz.prog 303 [.ro 2 (l.map TPoint.en), I (i : Int)] (fun r M => r = I (crnA l i) ∧ M = []) := by
  refine VB Tryz.func303 34 (fun E hE => ?_)
  have hclo : Clo (.ro 2 (l.map TPoint.en)) := clo_list TPoint.clo_en
  have hq : (isLine l = false ∧ crnA l i = -1) ∨ (isLine l = true ∧ inP l i = false ∧ crnA l i = -1) ∨ (isLine l = true ∧ inP l i = true) := by
    cases h1 : isLine l
    · exact .inl ⟨rfl, crnA_n (.inl h1)⟩
    · cases h2 : inP l i
      · exact .inr (.inl ⟨rfl, rfl, crnA_n (.inr h2)⟩)
      · exact .inr (.inr ⟨rfl, rfl⟩)
  rcases hq with ⟨h1, hca⟩ | ⟨h1, h2, hca⟩ | ⟨h1, h2⟩
  case' inr.inr => obtain ⟨a, b, p, hca, hz1, hga, hgb, hz2, hgp⟩ := corner_line hl h1 h2
  repeat' ((first
    | (refine iAL ?_; first | refine AL.any ?_ | refine AL.any (h := POp.k Tryz.func222 (hc := max_s _ _)) ?_ | refine AL.any (h := POp.k Tryz.func238 (hc := isLine_s _ (by assumption))) ?_ | refine AL.any (h := POp.k Tryz.func294 (hc := crs_s a b p)) ?_ | refine AL.U ?_ | refine AL.F ?_ | refine AL.T ?_ | refine AL.T (h := POp.k Tryz.func96 (hc := inr_s _ _ _)) ?_ | refine AL.W ?_ | refine AL.W (h := fun h => by (try rw [h]); exact POp.k Tryz.func96 (hc := inr_s _ _ _)) ?_ | refine AL.nil ?_)
    | ((with_reducible show DL ..); first | refine DL.any ?_ | refine DL.nil ?_)
    | (refine iAW ?_; first | (refine AW.c0 ?_; constructor) | refine AW.dr (id := 3) 14 ?_ | refine AW.cT ?_ | refine AW.cF ?_ | (refine AW.c2 ?_ ?_ <;> (intro h; try simp only [bT, bF] at h)))) <;> (try dsimp only))
  all_goals exact Fin.one rfl (RV.tmp (by rfl)) (clo_c _) ⟨by rw [hca] <;> first | rfl | (unfold triA wmax; rfl), rfl⟩

theorem crnS_s (l : List TPoint) (i : Nat) (hl : l.length ≤ 1048576) : VCalls Tryz.prog 304 [.ro 2 (l.map TPoint.en), I (i : Int)] (fun r M => r = I (crnS l i) ∧ M = []) := by
  refine VB Tryz.func304 43 (fun E hE => ?_)
  have hclo : Clo (.ro 2 (l.map TPoint.en)) := clo_list TPoint.clo_en
  have hq : (isRing l = false ∧ crnS l i = -1) ∨ (isRing l = true ∧ inC l i = false ∧ crnS l i = -1) ∨ (isRing l = true ∧ inC l i = true) := by
    cases h1 : isRing l
    · exact .inl ⟨rfl, crnS_n (.inl h1)⟩
    · cases h2 : inC l i
      · exact .inr (.inl ⟨rfl, rfl, crnS_n (.inr h2)⟩)
      · exact .inr (.inr ⟨rfl, rfl⟩)
  rcases hq with ⟨h1, hca⟩ | ⟨h1, h2, hca⟩ | ⟨h1, h2⟩
  case' inr.inr => obtain ⟨a, b, p, hca, hz0, hz1, hga, hgb, hz2, hgp⟩ := corner_ring hl h1 h2
  repeat' ((first
    | (refine iAL ?_; first | refine AL.any ?_ | refine AL.any (h := POp.k Tryz.func172 (hc := isRing_s _ (by assumption))) ?_ | refine AL.any (h := POp.k Tryz.func222 (hc := max_s _ _)) ?_ | refine AL.any (h := POp.k Tryz.func294 (hc := crs_s a b p)) ?_ | refine AL.U ?_ | refine AL.F ?_ | refine AL.T ?_ | refine AL.T (h := POp.k Tryz.func96 (hc := inr_s _ _ _)) ?_ | refine AL.W ?_ | refine AL.W (h := fun h => by (try rw [h]); exact POp.k Tryz.func96 (hc := inr_s _ _ _)) ?_ | refine AL.nil ?_)
    | ((with_reducible show DL ..); first | refine DL.any ?_ | refine DL.nil ?_)
    | (refine iAW ?_; first | (refine AW.c0 ?_; constructor) | refine AW.dr (id := 3) 23 ?_ | refine AW.cT ?_ | refine AW.cF ?_ | (refine AW.c2 ?_ ?_ <;> (intro h; try simp only [bT, bF] at h)))) <;> (try dsimp only))
  all_goals exact Fin.one rfl (RV.tmp (by rfl)) (clo_c _) ⟨by rw [hca] <;> first | rfl | (unfold triA wmax; rfl), rfl⟩

theorem same_s (l m : List TPoint) (hl : l.length ≤ 1048576) (hm : m.length ≤ 1048576) : VCalls Tryz.prog 326 [.ro 2 (l.map TPoint.en), .ro 2 (m.map TPoint.en)] (fun r M => r = B (sameT l m) ∧ M = []) := by
  refine VB Tryz.func326 23 (fun E hE => ?_)
  have hclo : Clo (.ro 2 (l.map TPoint.en)) := clo_list TPoint.clo_en
  have hclm : Clo (.ro 2 (m.map TPoint.en)) := clo_list TPoint.clo_en
  rcases Bool.eq_false_or_eq_true (decide (twice l > 0)) with h1 | h1 <;> rcases Bool.eq_false_or_eq_true (decide (twice m > 0)) with h2 | h2 <;> rcases Bool.eq_false_or_eq_true (decide (twice l < 0)) with h3 | h3
  repeat' ((first
    | (refine iAL ?_; first | refine AL.any ?_ | refine AL.any (h := POp.k Tryz.func336 (hc := twice_s _ (by assumption))) ?_ | refine AL.U ?_ | refine AL.F ?_ | refine AL.T ?_ | refine AL.W ?_ | refine AL.nil ?_)
    | (refine iAW ?_; first | (refine AW.c0 ?_; constructor))) <;> (try dsimp only))
  all_goals exact Fin.one rfl (RV.tmp (by rfl)) (clo_c _) ⟨by unfold sameT; simp only [*, Bool.true_or, Bool.false_or, Bool.true_and, Bool.false_and, Bool.or_false, Bool.and_false, Bool.and_true, Bool.or_true], rfl⟩

theorem triA_i (a b p : TPoint) : VCalls Tryz.prog 327 [.agg a.en, .agg b.en, .agg p.en] (fun r M => r = I (triA a b p) ∧ M = []) := by
  refine VB Tryz.func327 13 (fun E hE => ?_)
  dsimp only [TPoint.en]
  repeat' ((first
    | (refine iAL ?_; first | refine AL.any ?_ | refine AL.any (h := POp.k Tryz.func298 (hc := crs_i a b p)) ?_ | refine AL.nil ?_)
    | (refine iAW ?_; first | (refine AW.c0 ?_; constructor))) <;> (try dsimp only))
  all_goals exact Fin.one rfl (RV.tmp (by rfl)) (clo_c _) ⟨by first | rfl | (simp only [triA, wmax]; split <;> simp_all <;> omega), rfl⟩

theorem crnA_i (l : List TPoint) (i : Nat) (hl : l.length ≤ 1048576) : VCalls Tryz.prog 307 [.ro 2 (l.map TPoint.en), I (i : Int)] (fun r M => r = I (crnA l i) ∧ M = []) := by
  refine VB Tryz.func307 29 (fun E hE => ?_)
  have hclo : Clo (.ro 2 (l.map TPoint.en)) := clo_list TPoint.clo_en
  have hq : (isLine l = false ∧ crnA l i = -1) ∨ (isLine l = true ∧ inP l i = false ∧ crnA l i = -1) ∨ (isLine l = true ∧ inP l i = true) := by
    cases h1 : isLine l
    · exact .inl ⟨rfl, crnA_n (.inl h1)⟩
    · cases h2 : inP l i
      · exact .inr (.inl ⟨rfl, rfl, crnA_n (.inr h2)⟩)
      · exact .inr (.inr ⟨rfl, rfl⟩)
  rcases hq with ⟨h1, hca⟩ | ⟨h1, h2, hca⟩ | ⟨h1, h2⟩
  case' inr.inr => obtain ⟨a, b, p, hca, hz1, hga, hgb, hz2, hgp⟩ := corner_line hl h1 h2
  repeat' ((first
    | (refine iAL ?_; first | refine AL.any ?_ | refine AL.any (h := POp.k Tryz.func245 (hc := isLine_i _ (by assumption))) ?_ | refine AL.any (h := POp.k Tryz.func327 (hc := triA_i a b p)) ?_ | refine AL.U ?_ | refine AL.F ?_ | refine AL.T ?_ | refine AL.T (h := POp.k Tryz.func145 (hc := inr_v _ _ _)) ?_ | refine AL.W ?_ | refine AL.W (h := fun h => by (try rw [h]); exact POp.k Tryz.func145 (hc := inr_v _ _ _)) ?_ | refine AL.nil ?_)
    | ((with_reducible show DL ..); first | refine DL.any ?_ | refine DL.nil ?_)
    | (refine iAW ?_; first | (refine AW.c0 ?_; constructor) | refine AW.dr (id := 3) 14 ?_ | refine AW.cT ?_ | refine AW.cF ?_ | (refine AW.c2 ?_ ?_ <;> (intro h; try simp only [bT, bF] at h)))) <;> (try dsimp only))
  all_goals exact Fin.one rfl (RV.tmp (by rfl)) (clo_c _) ⟨by rw [hca] <;> first | rfl | (unfold triA wmax; rfl), rfl⟩

theorem crnS_i (l : List TPoint) (i : Nat) (hl : l.length ≤ 1048576) : VCalls Tryz.prog 308 [.ro 2 (l.map TPoint.en), I (i : Int)] (fun r M => r = I (crnS l i) ∧ M = []) := by
  refine VB Tryz.func308 38 (fun E hE => ?_)
  have hclo : Clo (.ro 2 (l.map TPoint.en)) := clo_list TPoint.clo_en
  have hq : (isRing l = false ∧ crnS l i = -1) ∨ (isRing l = true ∧ inC l i = false ∧ crnS l i = -1) ∨ (isRing l = true ∧ inC l i = true) := by
    cases h1 : isRing l
    · exact .inl ⟨rfl, crnS_n (.inl h1)⟩
    · cases h2 : inC l i
      · exact .inr (.inl ⟨rfl, rfl, crnS_n (.inr h2)⟩)
      · exact .inr (.inr ⟨rfl, rfl⟩)
  rcases hq with ⟨h1, hca⟩ | ⟨h1, h2, hca⟩ | ⟨h1, h2⟩
  case' inr.inr => obtain ⟨a, b, p, hca, hz0, hz1, hga, hgb, hz2, hgp⟩ := corner_ring hl h1 h2
  repeat' ((first
    | (refine iAL ?_; first | refine AL.any ?_ | refine AL.any (h := POp.k Tryz.func182 (hc := isRing_i _ (by assumption))) ?_ | refine AL.any (h := POp.k Tryz.func327 (hc := triA_i a b p)) ?_ | refine AL.U ?_ | refine AL.F ?_ | refine AL.T ?_ | refine AL.T (h := POp.k Tryz.func145 (hc := inr_v _ _ _)) ?_ | refine AL.W ?_ | refine AL.W (h := fun h => by (try rw [h]); exact POp.k Tryz.func145 (hc := inr_v _ _ _)) ?_ | refine AL.nil ?_)
    | ((with_reducible show DL ..); first | refine DL.any ?_ | refine DL.nil ?_)
    | (refine iAW ?_; first | (refine AW.c0 ?_; constructor) | refine AW.dr (id := 4) 20 ?_ | refine AW.cT ?_ | refine AW.cF ?_ | (refine AW.c2 ?_ ?_ <;> (intro h; try simp only [bT, bF] at h)))) <;> (try dsimp only))
  all_goals exact Fin.one rfl (RV.tmp (by rfl)) (clo_c _) ⟨by rw [hca] <;> first | rfl | (unfold triA wmax; rfl), rfl⟩

theorem dp_s (l : List TPoint) (i : Nat) (hl : l.length ≤ 1048576) : VCalls Tryz.prog 305 [.ro 2 (l.map TPoint.en), I (i : Int)] (fun r M => r = .tup [.ro 2 ((dpL l i).map TPoint.en), B (dpOk l i)] ∧ M = []) := by
  refine VB Tryz.func305 36 (fun E hE => ?_)
  have hclo : Clo (.ro 2 (l.map TPoint.en)) := clo_list TPoint.clo_en
  rcases dp_cases l i with ⟨h1, hpk, hpl⟩ | ⟨h1, h2, hpk, hpl⟩ | ⟨h1, h2, h3, hpk, hpl⟩ | ⟨h1, h2, h3, hpk, hpl⟩
  case' inr.inr.inl =>
    have hil : i < l.length := by have := inP_t hl h2; omega
    obtain ⟨c1, c2, c3, c4, c5⟩ := drp_cut hil hl
    have hd := drp_len hil
    have hl2 : (drp l i).length ≤ 1048576 := by omega
    have hdm := drp_map l i
    have hclD : Clo (.ro 2 ((drp l i).map TPoint.en)) := clo_list TPoint.clo_en
    have hcr : ∀ r ∈ (l.take i).map TPoint.en ++ (l.drop (i + 1)).map TPoint.en, ∀ y ∈ r, Clo y := hdm ▸ clo_rows TPoint.clo_en
  case' inr.inr.inr =>
    have hil : i < l.length := by have := inP_t hl h2; omega
    obtain ⟨c1, c2, c3, c4, c5⟩ := drp_cut hil hl
    have hd := drp_len hil
    have hl2 : (drp l i).length ≤ 1048576 := by omega
    have hdm := drp_map l i
    have hclD : Clo (.ro 2 ((drp l i).map TPoint.en)) := clo_list TPoint.clo_en
    have hcr : ∀ r ∈ (l.take i).map TPoint.en ++ (l.drop (i + 1)).map TPoint.en, ∀ y ∈ r, Clo y := hdm ▸ clo_rows TPoint.clo_en
  repeat' ((first
    | (refine iAL ?_; first | refine AL.any ?_ | refine AL.any (h := POp.k Tryz.func238 (hc := isLine_s _ (by assumption))) ?_ | refine AL.U ?_ | refine AL.F ?_ | refine AL.T ?_ | refine AL.T (h := POp.k Tryz.func96 (hc := inr_s _ _ _)) ?_ | refine AL.W ?_ | refine AL.W (h := fun h => by (try rw [h]); exact POp.k Tryz.func96 (hc := inr_s _ _ _)) ?_ | refine AL.nil ?_)
    | ((with_reducible show DL ..); first | refine DL.any ?_ | refine DL.nil ?_)
    | ((with_reducible show DLR ..); first | refine DLR.any ?_ | refine DLR.alloc rfl rfl (by first | exact ze2 | exact ze3 | exact ze4 | exact ze6 | exact ze8 | exact ze9 | exact ze10 | exact ze12 | exact ze13 | exact ze15 | exact ze22 | exact ze23 | exact ze24 | exact ze26 | exact ze27 | exact ze31 | exact ze32 | exact ze33 | exact ze34 | exact ze36 | exact ze47 | exact ze79 | exact ze129 | exact ze141) rfl rfl ?_ | refine DLR.box rfl rfl (by rfl) (by rfl) rfl rfl ?_ | refine DLR.store rfl rfl (by rfl) rfl rfl rfl rfl rfl (by rfl) (by rfl) (TT_ok.ld _ _ (by rfl)) (by rfl) (by rfl) rfl ?_ | refine DLR.row rfl (fun Y => RowRun.empty (by rfl) (by rfl) (by first | exact rwk22 | exact rwk23 | exact rwk24 | exact rwk31 | exact rwk32 | exact rwk33 | exact rwk79)) rfl rfl ?_ | refine DLR.row rfl (fun Y => RowRun.literal (by rfl) (by first | exact rwk22 | exact rwk23 | exact rwk24 | exact rwk31 | exact rwk32 | exact rwk33 | exact rwk79) (by rfl) (by rfl) (by rfl) (by rfl) (by rfl) (by rfl)) rfl rfl ?_ | refine DLR.append rfl (by rfl) (by first | exact rwk22 | exact rwk23 | exact rwk24 | exact rwk31 | exact rwk32 | exact rwk33 | exact rwk79) (by rfl) rfl rfl rfl rfl rfl rfl (by rfl) (by first | (simp <;> omega) | omega) (by first | (simp [maxLen] <;> omega) | (simp_all [maxLen] <;> omega)) ?_ | refine DLR.nil ?_)
    | (refine iAW ?_; first | (rw [hdm]) | (refine AW.freeze /-Ret-/ (t := 6) (id := 0) rfl rfl rfl rfl (clo_rows TPoint.clo_en) ?_; try dsimp only [dput, List.set, cond_true, cond_false, Nat.zero_add, Nat.add_zero, Nat.reduceAdd, splice, List.take, List.drop, List.length, List.nil_append, List.cons_append, List.append, TPoint.en, TSegment.en, TBox.en, TFeature.en, TMeet.en, TPlace.en, TCover.en, TLabel.en, TPiece.en, TLevel.en, TChart.en, TReason.en, TEdit.en, TEntry.en, TEdition.en, TListing.en, TAtlas.en, TEvent.en, TWindow.en]) | (refine AW.freezeRet (t := 4) (id := 0) rfl rfl rfl rfl (clo_rows TPoint.clo_en) ?_; (try simp only [List.take_length]); try dsimp only [dput, List.set, cond_true, cond_false, Nat.zero_add, Nat.add_zero, Nat.reduceAdd, splice, List.take, List.drop, List.length, List.nil_append, List.cons_append, List.append, TPoint.en, TSegment.en, TBox.en, TFeature.en, TMeet.en, TPlace.en, TCover.en, TLabel.en, TPiece.en, TLevel.en, TChart.en, TReason.en, TEdit.en, TEntry.en, TEdition.en, TListing.en, TAtlas.en, TEvent.en, TWindow.en]) | (refine AW.freezeRet (t := 4) (id := 1) rfl rfl rfl rfl (clo_rows TPoint.clo_en) ?_; (try simp only [List.take_length]); try dsimp only [dput, List.set, cond_true, cond_false, Nat.zero_add, Nat.add_zero, Nat.reduceAdd, splice, List.take, List.drop, List.length, List.nil_append, List.cons_append, List.append, TPoint.en, TSegment.en, TBox.en, TFeature.en, TMeet.en, TPlace.en, TCover.en, TLabel.en, TPiece.en, TLevel.en, TChart.en, TReason.en, TEdit.en, TEntry.en, TEdition.en, TListing.en, TAtlas.en, TEvent.en, TWindow.en]) | (refine AW.c0 ?_; constructor) | refine AW.drawnR (id := 3) 9 1 [some 0, none, none, none, some 0, none, none, none, none] [some Rsv] rfl (by kernel_rfl) (by kernel_rfl) (by kernel_rfl) (by rfl) ?_ | refine AW.cT ?_ | refine AW.cF ?_ | (refine AW.c2 ?_ ?_ <;> (intro h; try simp only [bT, bF] at h)))
    | ((with_reducible show DLR ..); first | refine DLR.any (h := fun Y => POp.quiet (QOp.cut_h (by rfl) slk79 (by rfl) (by rfl) (by first | decide | omega) (by first | assumption | omega) (by assumption))) ?_ | refine DLR.any (h := fun Y => POp.quiet (QOp.cut_l (by rfl) slk79 (by rfl) (by rfl) (by first | decide | omega) (by first | assumption | omega) (by assumption))) ?_)) <;> (try dsimp only))
  all_goals exact Fin.two rfl (RV.tmp (by rfl)) (RV.tmp (by rfl)) (Clo.tup (clo_cons (clo_list TPoint.clo_en) (clo_cons (clo_c _) clo_nil))) ⟨by rw [hpl, hpk], rfl⟩

theorem dc_s (l : List TPoint) (i : Nat) (hl : l.length ≤ 1048576) : VCalls Tryz.prog 306 [.ro 2 (l.map TPoint.en), I (i : Int)] (fun r M => r = .tup [.ro 2 ((dcL l i).map TPoint.en), B (dcOk l i)] ∧ M = []) := by
  refine VB Tryz.func306 42 (fun E hE => ?_)
  have hclo : Clo (.ro 2 (l.map TPoint.en)) := clo_list TPoint.clo_en
  rcases dc_cases l i with ⟨h1, hpk, hpl⟩ | ⟨h1, h2, hpk, hpl⟩ | ⟨h1, h2, h3, hpk, hpl⟩ | ⟨h1, h2, h3, h4, hpk, hpl⟩ | ⟨h1, h2, h3, h4, hpk, hpl⟩
  case' inr.inr.inl =>
    have hil : i < l.length := inC_t hl h2
    obtain ⟨c1, c2, c3, c4, c5⟩ := drp_cut hil hl
    have hd := drp_len hil
    have hl2 : (drp l i).length ≤ 1048576 := by omega
    have hdm := drp_map l i
    have hclD : Clo (.ro 2 ((drp l i).map TPoint.en)) := clo_list TPoint.clo_en
    have hcr : ∀ r ∈ (l.take i).map TPoint.en ++ (l.drop (i + 1)).map TPoint.en, ∀ y ∈ r, Clo y := hdm ▸ clo_rows TPoint.clo_en
  case' inr.inr.inr.inl =>
    have hil : i < l.length := inC_t hl h2
    obtain ⟨c1, c2, c3, c4, c5⟩ := drp_cut hil hl
    have hd := drp_len hil
    have hl2 : (drp l i).length ≤ 1048576 := by omega
    have hdm := drp_map l i
    have hclD : Clo (.ro 2 ((drp l i).map TPoint.en)) := clo_list TPoint.clo_en
    have hcr : ∀ r ∈ (l.take i).map TPoint.en ++ (l.drop (i + 1)).map TPoint.en, ∀ y ∈ r, Clo y := hdm ▸ clo_rows TPoint.clo_en
  case' inr.inr.inr.inr =>
    have hil : i < l.length := inC_t hl h2
    obtain ⟨c1, c2, c3, c4, c5⟩ := drp_cut hil hl
    have hd := drp_len hil
    have hl2 : (drp l i).length ≤ 1048576 := by omega
    have hdm := drp_map l i
    have hclD : Clo (.ro 2 ((drp l i).map TPoint.en)) := clo_list TPoint.clo_en
    have hcr : ∀ r ∈ (l.take i).map TPoint.en ++ (l.drop (i + 1)).map TPoint.en, ∀ y ∈ r, Clo y := hdm ▸ clo_rows TPoint.clo_en
  repeat' ((first
    | (refine iAL ?_; first | refine AL.any ?_ | refine AL.any (h := POp.k Tryz.func172 (hc := isRing_s _ (by assumption))) ?_ | refine AL.U ?_ | refine AL.F ?_ | refine AL.T ?_ | refine AL.T (h := POp.k Tryz.func96 (hc := inr_s _ _ _)) ?_ | refine AL.T (h := POp.k Tryz.func326 (hc := same_s l (drp l i) (by assumption) (by assumption))) ?_ | refine AL.W ?_ | refine AL.W (h := fun h => by (try rw [h]); exact POp.k Tryz.func96 (hc := inr_s _ _ _)) ?_ | refine AL.W (h := fun h => by (try rw [h]); exact POp.k Tryz.func326 (hc := same_s l (drp l i) (by assumption) (by assumption))) ?_ | refine AL.nil ?_)
    | ((with_reducible show DL ..); first | refine DL.any ?_ | refine DL.nil ?_)
    | ((with_reducible show DLR ..); first | refine DLR.any ?_ | refine DLR.alloc rfl rfl (by first | exact ze2 | exact ze3 | exact ze4 | exact ze6 | exact ze8 | exact ze9 | exact ze10 | exact ze12 | exact ze13 | exact ze15 | exact ze22 | exact ze23 | exact ze24 | exact ze26 | exact ze27 | exact ze32 | exact ze33 | exact ze34 | exact ze42 | exact ze47 | exact ze79 | exact ze129 | exact ze141 | exact ze151) rfl rfl ?_ | refine DLR.box rfl rfl (by rfl) (by rfl) rfl rfl ?_ | refine DLR.store rfl rfl (by rfl) rfl rfl rfl rfl rfl (by rfl) (by rfl) (TT_ok.ld _ _ (by rfl)) (by rfl) (by rfl) rfl ?_ | refine DLR.row rfl (fun Y => RowRun.empty (by rfl) (by rfl) (by first | exact rwk22 | exact rwk23 | exact rwk24 | exact rwk32 | exact rwk33 | exact rwk79)) rfl rfl ?_ | refine DLR.row rfl (fun Y => RowRun.literal (by rfl) (by first | exact rwk22 | exact rwk23 | exact rwk24 | exact rwk32 | exact rwk33 | exact rwk79) (by rfl) (by rfl) (by rfl) (by rfl) (by rfl) (by rfl)) rfl rfl ?_ | refine DLR.append rfl (by rfl) (by first | exact rwk22 | exact rwk23 | exact rwk24 | exact rwk32 | exact rwk33 | exact rwk79) (by rfl) rfl rfl rfl rfl rfl rfl (by rfl) (by first | (simp <;> omega) | omega) (by first | (simp [maxLen] <;> omega) | (simp_all [maxLen] <;> omega)) ?_ | refine DLR.nil ?_)
    | (refine iAW ?_; first | (rw [hdm]) | (refine AW.freeze /-Ret-/ (t := 6) (id := 0) rfl rfl rfl rfl (clo_rows TPoint.clo_en) ?_; try dsimp only [dput, List.set, cond_true, cond_false, Nat.zero_add, Nat.add_zero, Nat.reduceAdd, splice, List.take, List.drop, List.length, List.nil_append, List.cons_append, List.append, TPoint.en, TSegment.en, TBox.en, TFeature.en, TMeet.en, TPlace.en, TCover.en, TLabel.en, TPiece.en, TLevel.en, TChart.en, TReason.en, TEdit.en, TEntry.en, TEdition.en, TListing.en, TAtlas.en, TEvent.en, TWindow.en]) | (refine AW.freezeRet (t := 4) (id := 0) rfl rfl rfl rfl (clo_rows TPoint.clo_en) ?_; (try simp only [List.take_length]); try dsimp only [dput, List.set, cond_true, cond_false, Nat.zero_add, Nat.add_zero, Nat.reduceAdd, splice, List.take, List.drop, List.length, List.nil_append, List.cons_append, List.append, TPoint.en, TSegment.en, TBox.en, TFeature.en, TMeet.en, TPlace.en, TCover.en, TLabel.en, TPiece.en, TLevel.en, TChart.en, TReason.en, TEdit.en, TEntry.en, TEdition.en, TListing.en, TAtlas.en, TEvent.en, TWindow.en]) | (refine AW.freezeRet (t := 4) (id := 1) rfl rfl rfl rfl (clo_rows TPoint.clo_en) ?_; (try simp only [List.take_length]); try dsimp only [dput, List.set, cond_true, cond_false, Nat.zero_add, Nat.add_zero, Nat.reduceAdd, splice, List.take, List.drop, List.length, List.nil_append, List.cons_append, List.append, TPoint.en, TSegment.en, TBox.en, TFeature.en, TMeet.en, TPlace.en, TCover.en, TLabel.en, TPiece.en, TLevel.en, TChart.en, TReason.en, TEdit.en, TEntry.en, TEdition.en, TListing.en, TAtlas.en, TEvent.en, TWindow.en]) | (refine AW.c0 ?_; constructor) | refine AW.drawnR (id := 3) 9 1 [some 0, none, none, none, some 0, none, none, none, none] [some Rsv] rfl (by kernel_rfl) (by kernel_rfl) (by kernel_rfl) (by rfl) ?_ | refine AW.cT ?_ | refine AW.cF ?_ | (refine AW.c2 ?_ ?_ <;> (intro h; try simp only [bT, bF] at h)))
    | ((with_reducible show DLR ..); first | refine DLR.any (h := fun Y => POp.quiet (QOp.cut_h (by rfl) slk79 (by rfl) (by rfl) (by first | decide | omega) (by first | assumption | omega) (by assumption))) ?_ | refine DLR.any (h := fun Y => POp.quiet (QOp.cut_l (by rfl) slk79 (by rfl) (by rfl) (by first | decide | omega) (by first | assumption | omega) (by assumption))) ?_)) <;> (try dsimp only))
  all_goals exact Fin.two rfl (RV.tmp (by rfl)) (RV.tmp (by rfl)) (Clo.tup (clo_cons (clo_list TPoint.clo_en) (clo_cons (clo_c _) clo_nil))) ⟨by rw [hpl, hpk], rfl⟩

abbrev pcL (p : List TPoint) : List AV := [.ro 2 (p.map TPoint.en)]
theorem clo_pcL : ∀ p : List TPoint, ∀ x ∈ pcL p, Clo x := fun p => clo_cons (clo_list TPoint.clo_en) clo_nil
abbrev sumTo (ps : List (List TPoint)) (i : Nat) : Nat := ((ps.take i).map List.length).sum
theorem sumTo_succ {ps : List (List TPoint)} {i : Nat} {p : List TPoint} (h : ps[i]? = some p) : sumTo ps (i + 1) = sumTo ps i + p.length := by
  unfold sumTo
  rw [take_succ_of h]
  simp
theorem sum_mono {ps : List (List TPoint)} : ∀ i, sumTo ps i ≤ sumTo ps (i + 1) := fun i => by
  cases h : ps[i]? with
  | some p => rw [sumTo_succ h]; omega
  | none =>
    have : ps.length ≤ i := List.getElem?_eq_none_iff.1 h
    unfold sumTo
    rw [List.take_of_length_le this, List.take_of_length_le (by omega)]
    exact Nat.le_refl _
theorem sumTo_le {ps : List (List TPoint)} : ∀ {i j : Nat}, i ≤ j → sumTo ps i ≤ sumTo ps j := fun {i j} h => by
  induction j with
  | zero => rw [show i = 0 by omega]; exact Nat.le_refl _
  | succ j ih =>
    rcases Nat.lt_or_ge j i with h2 | h2
    · rw [show i = j + 1 by omega]; exact Nat.le_refl _
    · exact Nat.le_trans (ih h2) (sum_mono j)
theorem flat_succ {ps : List (List TPoint)} {i : Nat} {p : List TPoint} (h : ps[i]? = some p) : (ps.take (i + 1)).flatten.map TPoint.en = (ps.take i).flatten.map TPoint.en ++ p.map TPoint.en := by
  rw [take_succ_of h, List.flatten_append, List.map_append]
  simp

theorem concat_v (ps : List (List TPoint)) (hps : ps.length ≤ 16) (hs1 : 0 < sumTo ps ps.length) (hs2 : sumTo ps ps.length ≤ 1048576) : VCalls Tryz.prog 337 [.ro 1 (ps.map pcL)] (fun r M => r = .own 0 0 ∧ M = [some ⟨141, 2, 0, false, (ps.flatten).map TPoint.en⟩]) := by
  refine VB Tryz.func337 35 (fun E hE => ?_)
  have a1 := True.intro
  have hclo : Clo (.ro 1 (ps.map pcL)) := clo_list clo_pcL
  repeat' ((first
    | (refine iAL ?_; first | refine AL.any ?_ | refine AL.any (h := POp.O Tryz.func340 (hc := grow_v (sumTo ps ps.length) (by assumption) (by assumption))) ?_ | refine AL.nil ?_)
    | (refine iAW ?_; first | (rw [hsm]) | (refine AW.c0 ?_; constructor) | refine AW.cT ?_ | refine AW.cF ?_ | (refine AW.c2 ?_ ?_ <;> (intro h; try simp only [bT, bF] at h)))
    | (have _ := a1
       clear a1
       refine AW.loopD hE (fun s_ : Nat => [.ro 1 (ps.map pcL), .any, .any, I ((sumTo ps s_ : Nat) : Int), .any, .any, .any, .any, .any, .ro 1 (ps.map pcL), I ((ps.map pcL).length : Int), I (s_ : Int), .any, .any, .any, .any, .any, .any, .any, .any, .any, .any, .any, .any, .any, .any, .any, .any, .any, .any, .any, .any, .any, .any, .any, .any]) (fun s_ => []) (fun s_ => ps.length - s_) (fun s_ => s_ ≤ ps.length) 0 (Nat.zero_le _) ?_ (by first | rfl | (rfl)) ?_
       (focus ((repeat' (first | exact Wk.nil | refine Wk.any ?_ | (with_reducible refine Wk.same ?_) | refine Wk.of ?_ ?_)) <;> first | rfl | (simp [sumTo])))
       rintro i hJ
       try dsimp only at hJ
       try dsimp only
       by_cases hlt : i < ps.length
       case' pos =>
         have p1 := True.intro
         obtain ⟨x, hx⟩ := getD_some (l := ps) (i := i) hlt
         have hg := map_get (f := pcL) hx
         have ht := lt_true (f := pcL) hlt
         have hn := next_ix hlt (by omega)
         have hss := sumTo_succ hx
         have hle := sumTo_le (ps := ps) (i := i + 1) (j := ps.length) hlt
         have hsm : IntKind.i64.wrap (((sumTo ps i : Nat) : Int) + ((x.map TPoint.en).length : Int)) = ((sumTo ps (i + 1) : Nat) : Int) := by rw [List.length_map, w64 (by omega) (by omega), hss]; omega
         have hs0 : decide (((sumTo ps (i + 1) : Nat) : Int) < 0) = false := decide_eq_false (by omega)
         have hclx : Clo (.ro 2 (x.map TPoint.en)) := clo_list TPoint.clo_en
       case' neg =>
         have a2 := True.intro
         have ht := lt_false (f := pcL) hlt
         obtain rfl : i = ps.length := by omega)
    | (have _ := a2
       clear a2
       refine AW.loopD hE (fun s_ : Nat => [.ro 1 (ps.map pcL), .any, .any, .any, .any, .any, .own 0 s_, .any, .any, .any, .any, .any, .any, .any, .any, .any, .any, .any, .any, .any, .any, .any, .any, .any, .any, .ro 1 (ps.map pcL), I ((ps.map pcL).length : Int), I (s_ : Int), .any, .any, .any, .any, .any, .any, .any, .any]) (fun s_ => [some ⟨141, 2, s_, false, ((ps.take s_).flatten).map TPoint.en⟩]) (fun s_ => ps.length - s_) (fun s_ => s_ ≤ ps.length) 0 (Nat.zero_le _) ?_ (by first | rfl | (rfl)) ?_
       (focus ((repeat' (first | exact Wk.nil | refine Wk.any ?_ | (with_reducible refine Wk.same ?_) | refine Wk.of ?_ ?_)) <;> first | rfl | simp))
       rintro j hJ
       try dsimp only at hJ
       try dsimp only
       by_cases hlt : j < ps.length
       case' pos =>
         have p2 := True.intro
         obtain ⟨x, hx⟩ := getD_some (l := ps) (i := j) hlt
         have hg := map_get (f := pcL) hx
         have ht := lt_true (f := pcL) hlt
         have hn := next_ix hlt (by omega)
         have hm := flat_succ hx
         have hf1 : (List.take j (List.map (List.length ∘ List.map TPoint.en) ps)).sum = sumTo ps j := by unfold sumTo; rw [List.map_take]; congr 2; exact List.map_congr_left fun p _ => by simp
         have hss := sumTo_succ hx
         have hle := sumTo_le (ps := ps) (i := j + 1) (j := ps.length) hlt
         have hclx : Clo (.ro 2 (x.map TPoint.en)) := clo_list TPoint.clo_en
       case' neg =>
         have q2 := True.intro
         have ht := lt_false (f := pcL) hlt
         obtain rfl : j = ps.length := by omega
         rw [List.take_length])
    | with_reducible refine ifP ?_
    | with_reducible refine ifN ?_) <;> (try dsimp only))
  all_goals first
    | (have _ := p1; refine ⟨i + 1, _, hlt, by omega, ?_, rfl, ?_, ?_⟩; (focus ((repeat' (first | exact Wk.nil | refine Wk.any ?_ | (with_reducible refine Wk.same ?_) | refine Wk.of ?_ ?_)) <;> first | rfl | (rw [hn]; done))); (focus (exact fitsA)); (focus (exact FitsM.nil _)))
    | (have _ := p2; refine ⟨j + 1, _, hlt, by omega, ?_, by rw [hm] <;> rfl, ?_, ?_⟩; (focus ((repeat' (first | exact Wk.nil | refine Wk.any ?_ | (with_reducible refine Wk.same ?_) | refine Wk.of ?_ ?_)) <;> first | rfl | (rw [hn]; done))); (focus (exact fitsA)); (focus (exact fits_row (clo_rows TPoint.clo_en))))
    | (have _ := q2; exact Fin.r1 [0] rfl (RV.tmp (by rfl)) ⟨rfl, rfl⟩)

theorem without_v (l : List TPoint) (i : Nat) (hl : l.length ≤ 1048576) (hil : i < l.length) (h2l : 2 ≤ l.length) : VCalls Tryz.prog 328 [.ro 2 (l.map TPoint.en), I (i : Int)] (fun r M => r = .own 0 0 ∧ M = [some ⟨141, 2, 0, false, (drp l i).map TPoint.en⟩]) := by
  refine VB Tryz.func328 12 (fun E hE => ?_)
  have hclo : Clo (.ro 2 (l.map TPoint.en)) := clo_list TPoint.clo_en
  obtain ⟨c1, c2, c3, c4, c5⟩ := drp_cut hil hl
  have hd := drp_len hil
  have hsum : sumTo [l.take i, l.drop (i + 1)] 2 = (drp l i).length := by simp [drp, sumTo]
  have hs1 : 0 < sumTo [l.take i, l.drop (i + 1)] [l.take i, l.drop (i + 1)].length := by show 0 < sumTo _ 2; omega
  have hs2 : sumTo [l.take i, l.drop (i + 1)] [l.take i, l.drop (i + 1)].length ≤ 1048576 := by show sumTo _ 2 ≤ _; omega
  have hca : Clo (.ro 2 ((l.take i).map TPoint.en)) := clo_list TPoint.clo_en
  have hcb : Clo (.ro 2 ((l.drop (i + 1)).map TPoint.en)) := clo_list TPoint.clo_en
  have hfl : [l.take i, l.drop (i + 1)].flatten = drp l i := by simp [drp]
  have hcr2 : ∀ r ∈ ([[.ro 2 ((l.take i).map TPoint.en)], [.ro 2 ((l.drop (i + 1)).map TPoint.en)]] : List (List AV)), ∀ x ∈ r, Clo x := fun r hr => by
    rcases List.mem_cons.1 hr with rfl | hr
    · exact clo_cons hca clo_nil
    · rw [List.mem_singleton.1 hr]; exact clo_cons hcb clo_nil
  have hcl2 : Clo (.ro 1 [[.ro 2 ((l.take i).map TPoint.en)], [.ro 2 ((l.drop (i + 1)).map TPoint.en)]]) := Clo.ro hcr2
  have hcl3 : Clo (.ro 1 ([[.ro 2 ((l.take i).map TPoint.en)], [.ro 2 ((l.drop (i + 1)).map TPoint.en)]] : List (List AV)).reverse) := Clo.ro fun r hr => hcr2 r (List.mem_reverse.1 hr)
  repeat' ((first
    | (refine iAL ?_; first | refine AL.at 12 (h := POp.lit0 (RowRun.literal (by rfl) rwk295 (by rfl) (by rfl) (by rfl) (by rfl) (by rfl) (by rfl)) hcr2) ?_ | refine AL.any ?_ | refine AL.any (h := POp.O Tryz.func337 (hc := concat_v [l.take i, l.drop (i + 1)] (by simp) hs1 hs2)) ?_ | refine AL.nil ?_)
    | ((with_reducible show DL ..); first | refine DL.any ?_ | refine DL.nil ?_)
    | (refine iAW ?_; first | (refine AW.c0 ?_; constructor) | refine AW.dr (id := 1) 7 ?_)
    | ((with_reducible show DL ..); first | refine DL.any (h := POp.quiet (QOp.cut_h (by rfl) slk79 (by rfl) (by rfl) (by first | decide | omega) (by first | assumption | omega) (by assumption))) ?_ | refine DL.any (h := POp.quiet (QOp.cut_l (by rfl) slk79 (by rfl) (by rfl) (by first | decide | omega) (by first | assumption | omega) (by assumption))) ?_)) <;> (try dsimp only))
  all_goals exact Fin.r1 [0] rfl (RV.tmp (by rfl)) ⟨rfl, by rw [hfl] <;> rfl⟩

theorem without_r (l : List TPoint) (i : Nat) (hl : l.length ≤ 1048576) (hil : i < l.length) (h2l : 2 ≤ l.length) : VCalls Tryz.prog 328 [.ro 2 (l.map TPoint.en), I (i : Int)] (fun r M => r = .ro 2 ((drp l i).map TPoint.en) ∧ M = []) := VCalls.frz (without_v l i hl hil h2l) vwlT
theorem cloneP_r (l : List TPoint) (hl : l.length ≤ 1048576) : VCalls Tryz.prog 178 [.ro 2 (l.map TPoint.en)] (fun r M => r = .ro 2 (l.map TPoint.en) ∧ M = []) := VCalls.frz (clonePoint l hl) vwlT
theorem dp_i (l : List TPoint) (i : Nat) (hl : l.length ≤ 1048576) : VCalls Tryz.prog 309 [.ro 2 (l.map TPoint.en), I (i : Int)] (fun r M => r = .tup [.ro 2 ((dpL l i).map TPoint.en), B (dpOk l i)] ∧ M = []) := by
  refine VB Tryz.func309 27 (fun E hE => ?_)
  have hclo : Clo (.ro 2 (l.map TPoint.en)) := clo_list TPoint.clo_en
  rcases dp_cases l i with ⟨h1, hpk, hpl⟩ | ⟨h1, h2, hpk, hpl⟩ | ⟨h1, h2, h3, hpk, hpl⟩ | ⟨h1, h2, h3, hpk, hpl⟩
  case' inr.inr.inl =>
    have hil : i < l.length := by have := inP_t hl h2; omega
    obtain ⟨c1, c2, c3, c4, c5⟩ := drp_cut hil hl
    have hd := drp_len hil
    have hl2 : (drp l i).length ≤ 1048576 := by omega
    have hdm := drp_map l i
    have hclD : Clo (.ro 2 ((drp l i).map TPoint.en)) := clo_list TPoint.clo_en
    have hcr : ∀ r ∈ (l.take i).map TPoint.en ++ (l.drop (i + 1)).map TPoint.en, ∀ y ∈ r, Clo y := hdm ▸ clo_rows TPoint.clo_en
    have hlr := inP_t hl h2
  case' inr.inr.inr =>
    have hil : i < l.length := by have := inP_t hl h2; omega
    obtain ⟨c1, c2, c3, c4, c5⟩ := drp_cut hil hl
    have hd := drp_len hil
    have hl2 : (drp l i).length ≤ 1048576 := by omega
    have hdm := drp_map l i
    have hclD : Clo (.ro 2 ((drp l i).map TPoint.en)) := clo_list TPoint.clo_en
    have hcr : ∀ r ∈ (l.take i).map TPoint.en ++ (l.drop (i + 1)).map TPoint.en, ∀ y ∈ r, Clo y := hdm ▸ clo_rows TPoint.clo_en
    have hlr := inP_t hl h2
  repeat' ((first
    | (refine iAL ?_; first | refine AL.any ?_ | refine AL.any (h := POp.k Tryz.func178 (hc := cloneP_r l hl)) ?_ | refine AL.any (h := POp.k Tryz.func245 (hc := isLine_i _ (by assumption))) ?_ | refine AL.any (h := POp.k Tryz.func328 (hc := without_r l i hl hil (by omega))) ?_ | refine AL.U ?_ | refine AL.F ?_ | refine AL.T ?_ | refine AL.T (h := POp.k Tryz.func145 (hc := inr_v _ _ _)) ?_ | refine AL.W ?_ | refine AL.W (h := fun h => by (try rw [h]); exact POp.k Tryz.func145 (hc := inr_v _ _ _)) ?_ | refine AL.nil ?_)
    | (refine iAW ?_; first | (refine AW.c0 ?_; constructor) | refine AW.cT ?_ | refine AW.cF ?_ | (refine AW.c2 ?_ ?_ <;> (intro h; try simp only [bT, bF] at h)))) <;> (try dsimp only))
  all_goals exact Fin.two rfl (RV.tmp (by rfl)) (RV.tmp (by rfl)) (Clo.tup (clo_cons (clo_list TPoint.clo_en) (clo_cons (clo_c _) clo_nil))) ⟨by rw [hpl, hpk], rfl⟩

theorem dc_i (l : List TPoint) (i : Nat) (hl : l.length ≤ 1048576) : VCalls Tryz.prog 310 [.ro 2 (l.map TPoint.en), I (i : Int)] (fun r M => r = .tup [.ro 2 ((dcL l i).map TPoint.en), B (dcOk l i)] ∧ M = []) := by
  refine VB Tryz.func310 36 (fun E hE => ?_)
  have hclo : Clo (.ro 2 (l.map TPoint.en)) := clo_list TPoint.clo_en
  rcases dc_cases l i with ⟨h1, hpk, hpl⟩ | ⟨h1, h2, hpk, hpl⟩ | ⟨h1, h2, h3, hpk, hpl⟩ | ⟨h1, h2, h3, h4, hpk, hpl⟩ | ⟨h1, h2, h3, h4, hpk, hpl⟩
  case' inr.inr.inl =>
    have hil : i < l.length := inC_t hl h2
    obtain ⟨c1, c2, c3, c4, c5⟩ := drp_cut hil hl
    have hd := drp_len hil
    have hl2 : (drp l i).length ≤ 1048576 := by omega
    have hdm := drp_map l i
    have hclD : Clo (.ro 2 ((drp l i).map TPoint.en)) := clo_list TPoint.clo_en
    have hcr : ∀ r ∈ (l.take i).map TPoint.en ++ (l.drop (i + 1)).map TPoint.en, ∀ y ∈ r, Clo y := hdm ▸ clo_rows TPoint.clo_en
    have hlr := (isRing_len h1).1
  case' inr.inr.inr.inl =>
    have hil : i < l.length := inC_t hl h2
    obtain ⟨c1, c2, c3, c4, c5⟩ := drp_cut hil hl
    have hd := drp_len hil
    have hl2 : (drp l i).length ≤ 1048576 := by omega
    have hdm := drp_map l i
    have hclD : Clo (.ro 2 ((drp l i).map TPoint.en)) := clo_list TPoint.clo_en
    have hcr : ∀ r ∈ (l.take i).map TPoint.en ++ (l.drop (i + 1)).map TPoint.en, ∀ y ∈ r, Clo y := hdm ▸ clo_rows TPoint.clo_en
    have hlr := (isRing_len h1).1
  case' inr.inr.inr.inr =>
    have hil : i < l.length := inC_t hl h2
    obtain ⟨c1, c2, c3, c4, c5⟩ := drp_cut hil hl
    have hd := drp_len hil
    have hl2 : (drp l i).length ≤ 1048576 := by omega
    have hdm := drp_map l i
    have hclD : Clo (.ro 2 ((drp l i).map TPoint.en)) := clo_list TPoint.clo_en
    have hcr : ∀ r ∈ (l.take i).map TPoint.en ++ (l.drop (i + 1)).map TPoint.en, ∀ y ∈ r, Clo y := hdm ▸ clo_rows TPoint.clo_en
    have hlr := (isRing_len h1).1
  case' inr.inr.inr.inl => have hcm := turn_cmp h1 h3
  case' inr.inr.inr.inr => have hcm := turn_cmp h1 h3
  all_goals try (rw [h4] at hcm; simp only [Bool.not_true, Bool.not_false] at hcm)
  repeat' ((first
    | (refine iAL ?_; first | refine AL.any ?_ | refine AL.any (h := POp.k Tryz.func178 (hc := cloneP_r l hl)) ?_ | refine AL.any (h := POp.k Tryz.func182 (hc := isRing_i _ (by assumption))) ?_ | refine AL.any (h := POp.k Tryz.func328 (hc := without_r l i hl hil (by omega))) ?_ | refine AL.U ?_ | refine AL.F ?_ | refine AL.T ?_ | refine AL.T (h := POp.k Tryz.func128 (hc := cmp_v _ _)) ?_ | refine AL.T (h := POp.k Tryz.func145 (hc := inr_v _ _ _)) ?_ | refine AL.T (h := POp.k Tryz.func329 (hc := by first | exact twice_i l hl | exact twice_i (drp l i) hl2)) ?_ | refine AL.W ?_ | refine AL.W (h := fun h => by (try rw [h]); exact POp.k Tryz.func128 (hc := cmp_v _ _)) ?_ | refine AL.W (h := fun h => by (try rw [h]); exact POp.k Tryz.func145 (hc := inr_v _ _ _)) ?_ | refine AL.W (h := fun h => by (try rw [h]); exact POp.k Tryz.func329 (hc := by first | exact twice_i l hl | exact twice_i (drp l i) hl2)) ?_ | refine AL.nil ?_)
    | (refine iAW ?_; first | (refine AW.c0 ?_; constructor) | refine AW.cT ?_ | refine AW.cF ?_ | (refine AW.c2 ?_ ?_ <;> (intro h; try simp only [bT, bF] at h)))) <;> (try dsimp only))
  all_goals exact Fin.two rfl (RV.tmp (by rfl)) (RV.tmp (by rfl)) (Clo.tup (clo_cons (clo_list TPoint.clo_en) (clo_cons (clo_c _) clo_nil))) ⟨by rw [hpl, hpk], rfl⟩

end Go.Proofs.YtpffahmmklpifaaGreat.Abs
