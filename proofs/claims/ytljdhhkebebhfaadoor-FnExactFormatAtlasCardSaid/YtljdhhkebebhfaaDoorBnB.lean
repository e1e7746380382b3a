/- Part B of the walk over abstract states and of the functions' walks. -/
import Derived.Test.YtljdhhkebebhfaaDoorWkStep
import Derived.Test.YtljdhhkebebhfaaDoorBnA
import Derived.Test.YtljdhhkebebhfaaDoorWkSz
import Derived.Test.YtljdhhkebebhfaaDoorShelf
import Derived.Lib.AppendIntMem
import Derived.Lib.ItoaLen
import Derived.Lib.JoinLaws
import Derived.Test.YtljdhhkebebhfaaDoorWkTo
import Derived.Test.YtljdhhkebebhfaaDoorWkEq
/- The walks of the lists of regions. -/
namespace Go.Proofs.YtljdhhkebebhfaaDoor.Abs
open Go.Proofs Go.RowKit
set_option linter.unusedVariables false
set_option linter.unusedSimpArgs false
set_option maxRecDepth 100000
set_option maxHeartbeats 2000000
attribute [local irreducible] OpA AL AW DL DLM DLR DLS QOp POp VCalls VCallsI
theorem regs_s (W G : Nat) (s : ByteArray) (hW : 1 ≤ W ∧ W ≤ 6) (hG : 1 ≤ G ∧ G ≤ 6) (hs : s.size = W * G) (hc : isCover (W : Int) (G : Int) s = true) (n : Nat → Nat) (hnm : Num W s n) : VCalls Tryd.prog 14 [.agg [I (W : Int), I (G : Int), S s]] (fun r M => r = .own 0 0 ∧ M = [some ⟨3, 1, 0, false, (headL n s.size).map enI⟩]) := by
  refine VB Tryd.func14 25 (fun E hE => ?_)
  have hsz : s.size ≤ 1048576 := by have := isCover_size hc; omega
  have hl : (numL n s.size).length ≤ 1048576 := by rw [numL_len]; exact hsz
  have hclN : Clo (.ro 1 ((numL n s.size).map enI)) := clo_list (fun m => clo_cons (clo_c _) clo_nil)
  repeat' ((first
    | (refine iAL ?_; first | refine AL.any ?_ | refine AL.any (h := POp.k Tryd.func29 (hc := isCover_s_t _ _ _ (by omega) hc)) ?_ | refine AL.any (h := POp.k Tryd.func30 (hc := nums15_s' W G s hW hG hs hc n hnm)) ?_ | refine AL.any (h := POp.O Tryd.func31 (hc := put14_s (headL n i) ((n i : Nat) : Int) (by have := headL_len n i; omega))) ?_ | refine AL.nil ?_)
    | (refine iAW ?_; first | (refine AW.c0 ?_; constructor) | refine AW.cT ?_ | refine AW.cF ?_ | (refine AW.c2 ?_ ?_ <;> (intro h; try simp only [bT, bF] at h)))
    | (refine AW.loopR hE (fun i : Nat => [.any, .any, .any, .own 0 0, .ro 1 ((numL n s.size).map enI), I (i : Int), .any, .any, .any, .any, .any, .any, .any, .any, .any, .any, .any, .any, .any, .any, .any, .any, .any, .any, .any, .any]) (fun i => [some ⟨3, 1, 0, false, (headL n i).map enI⟩]) (fun i => (numL n s.size).length - i) (fun i => i ≤ (numL n s.size).length) 0 [1] (by simp) (by decide) (by repeat' (first | exact trivial | refine ⟨⟨_, rfl, ?_⟩, ?_⟩ | exact DCl.b rfl | exact DCl.map (fun _ => rfl))) ?_ (by first | rfl | (rfl)) ?_
       (focus (repeat' (first | exact RenL.nil | refine RenL.any ?_ | refine RenL.own ?_ | refine RenL.clo ?_ (by first | rfl | (simp_all)))))
       intro i hi
       by_cases hlt : i < (numL n s.size).length
       case' pos =>
         have hP := True.intro
         obtain ⟨x, hx⟩ : ∃ x, (numL n s.size)[i]? = some x := ⟨_, List.getElem?_eq_getElem hlt⟩
         have hg := map_get (f := enI) hx
         have ht := lt_true (f := enI) hlt
         have hn := next_ix hlt (by omega)
         have hi36 : i < s.size := by rw [numL_len] at hlt; exact hlt
         obtain rfl : x = ((n i : Nat) : Int) := by rw [numL_get hi36] at hx; exact (Option.some.inj hx).symm
         have hph := put_heads hnm hi36
       case' neg =>
         have hQ := True.intro
         have ht := lt_false (f := enI) hlt
         have e : i = (numL n s.size).length := by omega
         subst e
         try rw [List.take_length])
    | with_reducible refine ifP ?_
    | with_reducible refine ifN ?_) <;> (try dsimp only))
  all_goals first
    | (have _ := hP; (refine ⟨i + 1, [1], hlt, by omega, by decide, (by repeat' (first | exact trivial | refine ⟨⟨_, rfl, ?_⟩, ?_⟩ | exact DCl.b rfl | exact DCl.map (fun _ => rfl))), ?_, by rw [← hph] <;> rfl⟩; (focus (repeat' (first | exact RenL.nil | refine RenL.any ?_ | refine RenL.own ?_ | refine RenL.clo ?_ (by first | rfl | (first | (rw [hn]; done) | simp_all)))))))
    | (have _ := hQ; simp only [numL_len]; exact Fin.r1 [0] rfl (RV.tmp (by rfl)) ⟨rfl, rfl⟩)

theorem regs_i (W G : Nat) (s : ByteArray) (hW : 1 ≤ W ∧ W ≤ 6) (hG : 1 ≤ G ∧ G ≤ 6) (hs : s.size = W * G) (hc : isCover (W : Int) (G : Int) s = true) (n : Nat → Nat) (hnm : Num W s n) : VCalls Tryd.prog 20 [.agg [I (W : Int), I (G : Int), S s]] (fun r M => r = .own 0 0 ∧ M = [some ⟨3, 1, 0, false, (headL n s.size).map enI⟩]) := by
  refine VB Tryd.func20 23 (fun E hE => ?_)
  have hsz : s.size ≤ 1048576 := by have := isCover_size hc; omega
  have hl : (numL n s.size).length ≤ 1048576 := by rw [numL_len]; exact hsz
  have hclN : Clo (.ro 1 ((numL n s.size).map enI)) := clo_list (fun m => clo_cons (clo_c _) clo_nil)
  repeat' ((first
    | (refine iAL ?_; first | refine AL.any ?_ | refine AL.any (h := POp.k Tryd.func37 (hc := regs15_i' W G s hW hG hs hc n hnm)) ?_ | refine AL.nil ?_)
    | (refine iAW ?_; first | (refine AW.c0 ?_; constructor) | refine AW.cT ?_ | refine AW.cF ?_ | (refine AW.c2 ?_ ?_ <;> (intro h; try simp only [bT, bF] at h)))
    | (refine AW.loopD hE (fun i : Nat => [.any, .ref 0 0 3 0 0, .any, .own 1 (headL n i).length, .any, .any, .any, .any, .ro 1 ((numL n s.size).map enI), I ((numL n s.size).map enI).length, I (i : Int), .any, .any, .any, .any, .any, .any, .any, .any, .any, .any, .any, .any, .any]) (fun i => [some ⟨34, 3, 0, true, [[I (W : Int), I (G : Int), S s]]⟩, some ⟨3, 1, (headL n i).length, false, (headL n i).map enI⟩]) (fun i => (numL n s.size).length - i) (fun i => i ≤ (numL n s.size).length) 0 (by simp) ?_ (by first | rfl | (simp [fil_zero]; done)) ?_
       (focus ((repeat' (first | exact Wk.nil | refine Wk.any ?_ | (with_reducible refine Wk.same ?_) | refine Wk.of ?_ ?_)) <;> first | rfl | (rfl)))
       intro i hi
       by_cases hlt : i < (numL n s.size).length
       case' pos =>
         have hP := True.intro
         obtain ⟨x, hx⟩ : ∃ x, (numL n s.size)[i]? = some x := ⟨_, List.getElem?_eq_getElem hlt⟩
         have hg := map_get (f := enI) hx
         have ht := lt_true (f := enI) hlt
         have hn := next_ix hlt (by omega)
         have hi36 : i < s.size := by rw [numL_len] at hlt; exact hlt
         obtain rfl : x = ((n i : Nat) : Int) := by rw [numL_get hi36] at hx; exact (Option.some.inj hx).symm
         have hhl := headL_len n i
         rcases Nat.decEq (n i) i with hne | heq
         have h1 : ((((n i : Nat) : Int)) == ((i : Nat) : Int)) = false := by simp; omega
         have hH := headL_n hne
         have hHl : (headL n (i + 1)).length = (headL n i).length := by rw [hH]
         have hHm : (headL n (i + 1)).map enI = (headL n i).map enI := by rw [hH]
         rotate_left 1
         have h1 : ((((n i : Nat) : Int)) == ((i : Nat) : Int)) = true := by simp; omega
         have hH := headL_y heq
         have hHl : (headL n (i + 1)).length = (headL n i).length + 1 := by rw [hH]; simp
         have hHm : (headL n (i + 1)).map enI = (headL n i).map enI ++ [[I ((n i : Nat) : Int)]] := by rw [hH, List.map_append, heq]; rfl
         rotate_left 1
       case' neg =>
         have hQ := True.intro
         have ht := lt_false (f := enI) hlt
         have e : i = (numL n s.size).length := by omega
         subst e
         try rw [List.take_length])
    | with_reducible refine ifP ?_
    | with_reducible refine ifN ?_) <;> (try dsimp only))
  all_goals first
    | (have _ := hP; (refine ⟨i + 1, _, hlt, by omega, ?_, by rw [hHl, hHm] <;> rfl, ?_, ?_⟩; (focus ((repeat' (first | exact Wk.nil | refine Wk.any ?_ | (with_reducible refine Wk.same ?_) | refine Wk.of ?_ ?_)) <;> (first | rfl | (rw [hn]; done) | (rw [hHl]; done) | simp_all))); (focus (exact fitsA)); (focus (exact fitsM_b (one_row (by repeat' (first | exact Fits.nil _ | refine Fits.cons ?_ ?_ | exact Fits.c _ _))) (fits_dcl (DCl.map (fun _ => rfl)))))))
    | (have _ := hQ; simp only [numL_len]; exact Fin.r1 [1] rfl (RV.tmp (by rfl)) ⟨rfl, rfl⟩)

theorem regs_s_n (w g : Int) (s : ByteArray) (hs : s.size ≤ 9223372036854775807) (hc : isCover w g s = false) : VCalls Tryd.prog 14 [.agg [I w, I g, S s]] (fun r M => r = .own 0 0 ∧ M = [some ⟨3, 1, 0, false, []⟩]) := by
  refine VB Tryd.func14 25 (fun E hE => ?_)
  repeat' ((first
    | (refine iAL ?_; first | refine AL.any ?_ | refine AL.any (h := POp.k Tryd.func29 (hc := isCover_s_f _ _ _ hs hc)) ?_ | refine AL.nil ?_)
    | (refine iAW ?_; first | (refine AW.c0 ?_; constructor) | refine AW.cT ?_ | refine AW.cF ?_ | (refine AW.c2 ?_ ?_ <;> (intro h; try simp only [bT, bF] at h)))
    | with_reducible refine ifP ?_
    | with_reducible refine ifN ?_) <;> (try dsimp only))
  all_goals exact Fin.r1 [1] rfl (RV.tmp (by rfl)) ⟨rfl, rfl⟩

theorem regs15_n (w g : Int) (s : ByteArray) (hs : s.size ≤ 9223372036854775807) (hc : isCover w g s = false) : VCalls Tryd.prog 37 [.agg [I w, I g, S s]] (fun r M => r = .c (.slice none 0 0) ∧ M = []) := by
  refine VB Tryd.func37 90 (fun E hE => ?_)
  repeat' ((first
    | (refine iAL ?_; first | refine AL.any ?_ | refine AL.any (h := POp.k Tryd.func49 (hc := isCover_i_f _ _ _ hs hc)) ?_ | refine AL.U ?_ | refine AL.F ?_ | refine AL.T ?_ | refine AL.W ?_ | refine AL.nil ?_)
    | ((with_reducible show DL ..); first | refine DL.any ?_ | refine DL.U ?_ | refine DL.F ?_ | refine DL.T ?_ | refine DL.W ?_ | refine DL.nil ?_)
    | (refine iAW ?_; first | (refine AW.c0 ?_; constructor) | refine AW.dr (id := 21) 14 ?_ | refine AW.cT ?_ | refine AW.cF ?_ | (refine AW.c2 ?_ ?_ <;> (intro h; try simp only [bT, bF] at h)))
    | with_reducible refine ifP ?_
    | with_reducible refine ifN ?_) <;> (try dsimp only))
  all_goals exact Fin.one rfl (RV.tmp (by rfl)) (clo_c _) ⟨rfl, rfl⟩

theorem regs15_n' (w g : Int) (s : ByteArray) (hs : s.size ≤ 9223372036854775807) (hc : isCover w g s = false) : VCalls Tryd.prog 37 [.agg [I w, I g, S s]] (fun r M => r = .ro 1 (([] : List Int).map enI) ∧ M = []) := VCalls.frz (regs15_n w g s hs hc) vwlT
theorem regs_i_n (w g : Int) (s : ByteArray) (hs : s.size ≤ 9223372036854775807) (hc : isCover w g s = false) : VCalls Tryd.prog 20 [.agg [I w, I g, S s]] (fun r M => r = .own 0 0 ∧ M = [some ⟨3, 1, 0, false, []⟩]) := by
  refine VB Tryd.func20 23 (fun E hE => ?_)
  have hl : ([] : List Int).length ≤ 1048576 := by decide
  have hclN : Clo (.ro 1 (([] : List Int).map enI)) := clo_list (fun m => clo_cons (clo_c _) clo_nil)
  repeat' ((first
    | (refine iAL ?_; first | refine AL.any ?_ | refine AL.any (h := POp.k Tryd.func37 (hc := regs15_n' w g s hs hc)) ?_ | refine AL.nil ?_)
    | (refine iAW ?_; first | (refine AW.c0 ?_; constructor) | refine AW.cT ?_ | refine AW.cF ?_ | (refine AW.c2 ?_ ?_ <;> (intro h; try simp only [bT, bF] at h)))
    | (refine AW.loopD hE (fun i : Nat => [.any, .ref 0 0 3 0 0, .any, .own 1 0, .any, .any, .any, .any, .ro 1 (([] : List Int).map enI), I (([] : List Int).map enI).length, I (i : Int), .any, .any, .any, .any, .any, .any, .any, .any, .any, .any, .any, .any, .any]) (fun i => [some ⟨34, 3, 0, true, [[I w, I g, S s]]⟩, some ⟨3, 1, 0, false, []⟩]) (fun i => ([] : List Int).length - i) (fun i => i ≤ ([] : List Int).length) 0 (by simp) ?_ (by first | rfl | (simp [fil_zero]; done)) ?_
       (focus ((repeat' (first | exact Wk.nil | refine Wk.any ?_ | (with_reducible refine Wk.same ?_) | refine Wk.of ?_ ?_)) <;> first | rfl | (rfl)))
       intro i hi
       by_cases hlt : i < ([] : List Int).length
       case' pos =>
         have hP := True.intro
         obtain ⟨x, hx⟩ : ∃ x, ([] : List Int)[i]? = some x := ⟨_, List.getElem?_eq_getElem hlt⟩
         have hg := map_get (f := enI) hx
         have ht := lt_true (f := enI) hlt
         have hn := next_ix hlt (by omega)
         exact absurd hlt (Nat.not_lt_zero _)
       case' neg =>
         have hQ := True.intro
         have ht := lt_false (f := enI) hlt
         have e : i = ([] : List Int).length := by omega
         subst e
         try rw [List.take_length])
    | with_reducible refine ifP ?_
    | with_reducible refine ifN ?_) <;> (try dsimp only))
  all_goals first
    | (have _ := hP; (refine ⟨i + 1, _, hlt, by omega, ?_, rfl, ?_, ?_⟩; (focus (exact wkN)); (focus (exact fitsA)); (focus (exact FitsM.nil _))))
    | (have _ := hQ; exact Fin.r1 [1] rfl (RV.tmp (by rfl)) ⟨rfl, rfl⟩)

open Classical in
noncomputable def rgO (w g : Int) (s : ByteArray) : List Int := if isCover w g s = true then headL (Classical.choose (Num.some w.toNat s)) s.size else []
theorem rgO_len (w g : Int) (s : ByteArray) : (rgO w g s).length ≤ 36 := by
  unfold rgO
  split
  · exact Nat.le_trans (headL_len _ _) (isCover_size (by assumption)).2
  · exact Nat.zero_le _
theorem cov_nat {w g : Int} {s : ByteArray} (hc : isCover w g s = true) : ∃ W G : Nat, w = (W : Int) ∧ g = (G : Int) ∧ (1 ≤ W ∧ W ≤ 6) ∧ (1 ≤ G ∧ G ≤ 6) ∧ s.size = W * G := by
  simp only [isCover, inr, Bool.and_eq_true, decide_eq_true_eq, beq_iff_eq] at hc
  obtain ⟨⟨⟨hw, hh⟩, hs⟩, _⟩ := hc
  obtain ⟨W, rfl⟩ := Int.eq_ofNat_of_zero_le (show 0 ≤ w by omega)
  obtain ⟨G, rfl⟩ := Int.eq_ofNat_of_zero_le (show 0 ≤ g by omega)
  have h2 : W * G ≤ 6 * 6 := Nat.mul_le_mul (by omega) (by omega)
  refine ⟨W, G, rfl, rfl, by omega, by omega, ?_⟩
  rw [← Int.natCast_mul, w64 (by omega) (by omega)] at hs
  omega
theorem rgO_s (w g : Int) (s : ByteArray) (hs : s.size ≤ 9223372036854775807) : VCalls Tryd.prog 14 [.agg [I w, I g, S s]] (fun r M => r = .own 0 0 ∧ M = [some ⟨3, 1, 0, false, (rgO w g s).map enI⟩]) := by
  rcases Bool.eq_false_or_eq_true (isCover w g s) with hc | hc
  · obtain ⟨W, G, rfl, rfl, hW, hG, hz⟩ := cov_nat hc
    rw [show rgO (W : Int) (G : Int) s = headL (Classical.choose (Num.some W s)) s.size from if_pos hc]
    exact regs_s W G s hW hG hz hc _ (Classical.choose_spec (Num.some W s))
  · rw [show rgO w g s = [] from if_neg (by rw [hc]; exact Bool.noConfusion)]
    exact regs_s_n w g s hs hc
theorem rgO_s' (w g : Int) (s : ByteArray) (hs : s.size ≤ 9223372036854775807) : VCalls Tryd.prog 14 [.agg [I w, I g, S s]] (fun r M => r = .ro 1 ((rgO w g s).map enI) ∧ M = []) := VCalls.frz (rgO_s w g s hs) vwlT
theorem rgO_i (w g : Int) (s : ByteArray) (hs : s.size ≤ 9223372036854775807) : VCalls Tryd.prog 20 [.agg [I w, I g, S s]] (fun r M => r = .own 0 0 ∧ M = [some ⟨3, 1, 0, false, (rgO w g s).map enI⟩]) := by
  rcases Bool.eq_false_or_eq_true (isCover w g s) with hc | hc
  · obtain ⟨W, G, rfl, rfl, hW, hG, hz⟩ := cov_nat hc
    rw [show rgO (W : Int) (G : Int) s = headL (Classical.choose (Num.some W s)) s.size from if_pos hc]
    exact regs_i W G s hW hG hz hc _ (Classical.choose_spec (Num.some W s))
  · rw [show rgO w g s = [] from if_neg (by rw [hc]; exact Bool.noConfusion)]
    exact regs_i_n w g s hs hc
theorem rgO_i' (w g : Int) (s : ByteArray) (hs : s.size ≤ 9223372036854775807) : VCalls Tryd.prog 20 [.agg [I w, I g, S s]] (fun r M => r = .ro 1 ((rgO w g s).map enI) ∧ M = []) := VCalls.frz (rgO_i w g s hs) vwlT
end Go.Proofs.YtljdhhkebebhfaaDoor.Abs

/- Numerals and joined lists: what the library's functions give, and the plain laws. -/
namespace Go.Proofs.YtljdhhkebebhfaaDoor.Abs
open Go.Proofs Go.RowKit
set_option linter.unusedVariables false
set_option linter.unusedSimpArgs false
set_option maxRecDepth 100000
set_option maxHeartbeats 2000000
def TabI (w : World) : Prop := Lib.TabIs Tryd.prog w "internal/strconv.uint64pow10" .u64 Lib.pow10Tab
def fmtI (n : Int) : ByteArray := bs (Lib.itoa n)
theorem i64_iff {n : Int} (h : i64 n) : -9223372036854775808 ≤ n ∧ n ≤ 9223372036854775807 := by
  have e1 : IntKind.i64.min = -9223372036854775808 := rfl
  have e2 : IntKind.i64.max = 9223372036854775807 := rfl
  simp [i64, Lit.wf, e1, e2] at h
  omega
theorem fmtI_size {n : Int} (h : i64 n) : (fmtI n).size ≤ 21 := by
  rw [fmtI, bs_size]
  exact Lib.itoa_length_le n (i64_iff h).1 (i64_iff h).2
theorem itoa_v (n : Int) (h : i64 n) : VCallsI Tryd.prog TabI 47 [I n] (fun r M => r = S (fmtI n) ∧ M = []) :=
  VCallsI.plain (vs := [.int .i64 n]) fun w hI => (Tryd.strconv_Itoa n (i64_iff h).1 (i64_iff h).2 w hI).mono fun e w' he => ⟨he.1, by
    obtain ⟨_, k, os, rfl⟩ := he
    exact Lib.below_grow _ w (Nat.le_refl _) k os⟩
def sfx (u : Nat) : Nat → List UInt8
  | 0 => []
  | k + 1 => UInt8.ofNat (48 + u / 10 ^ k % 10) :: sfx u k
theorem sfx_len (u : Nat) : ∀ k, (sfx u k).length = k
  | 0 => rfl
  | k + 1 => by simp [sfx, sfx_len u k]
theorem sfx_snoc (u : Nat) : ∀ k, sfx u (k + 1) = sfx (u / 10) k ++ [UInt8.ofNat (48 + u % 10)]
  | 0 => by simp [sfx]
  | k + 1 => by
    rw [show sfx u (k + 2) = UInt8.ofNat (48 + u / 10 ^ (k + 1) % 10) :: sfx u (k + 1) from rfl, sfx_snoc u k, show sfx (u / 10) (k + 1) = UInt8.ofNat (48 + u / 10 / 10 ^ k % 10) :: sfx (u / 10) k from rfl, Nat.div_div_eq_div_mul, ← Nat.pow_succ']
    rfl
theorem nd_lt : ∀ (i u : Nat), 0 < u → (i < Lib.nDigits u ↔ u / 10 ^ i ≠ 0)
  | 0, u, h => by
    have : 0 < Lib.nDigits u := by
      by_cases hs : u < 10
      · rw [Lib.nDigits_small hs]; decide
      · rw [Lib.nDigits_big hs]; omega
    simp; omega
  | i + 1, u, h => by
    by_cases hs : u < 10
    · rw [Lib.nDigits_small hs]
      have h1 : u / 10 ^ (i + 1) = 0 := Nat.div_eq_of_lt (Nat.lt_of_lt_of_le hs (by rw [Nat.pow_succ]; have := Nat.pow_pos (n := i) (show 0 < 10 by decide); omega))
      simp [h1]
    · rw [Lib.nDigits_big hs]
      have := nd_lt i (u / 10) (by omega)
      rw [Nat.div_div_eq_div_mul, ← Nat.pow_succ'] at this
      rw [← this]
      omega
theorem sfx_all : ∀ (u : Nat), 0 < u → sfx u (Lib.nDigits u) = Lib.decDigits u := by
  intro u
  induction u using Nat.strongRecOn with
  | _ u ih =>
    intro h
    by_cases hs : u < 10
    · rw [Lib.nDigits_small hs, Lib.decDigits, dif_pos hs]
      simp [sfx, Nat.mod_eq_of_lt hs]
    · rw [Lib.nDigits_big hs, Lib.decDigits, dif_neg hs, sfx_snoc, ih (u / 10) (by omega) (by omega)]
def xk (n : Int) (i : Nat) : Int := if n < 0 then -((n.natAbs / 10 ^ i : Nat) : Int) else ((n.natAbs / 10 ^ i : Nat) : Int)
theorem w8 {n : Int} (h1 : 0 ≤ n) (h2 : n ≤ 255) : IntKind.u8.wrap n = n := by
  unfold IntKind.wrap
  simp [IntKind.bits, IntKind.signed]
  omega
theorem xk_zero (n : Int) : xk n 0 = n := by
  unfold xk
  simp
  split <;> omega
theorem xk_succ {n : Int} (h0 : -9223372036854775808 ≤ n) (h1 : n ≤ 9223372036854775807) (i : Nat) : IntKind.i64.wrap ((xk n i).tdiv 10) = xk n (i + 1) := by
  obtain ⟨u, hu⟩ : ∃ u : Nat, u = n.natAbs / 10 ^ i := ⟨_, rfl⟩
  have hu2 : n.natAbs / 10 ^ (i + 1) = u / 10 := by rw [Nat.pow_succ, ← Nat.div_div_eq_div_mul, hu]
  have hul : u ≤ n.natAbs := hu ▸ Nat.div_le_self _ _
  have hx : xk n i = if n < 0 then -(u : Int) else (u : Int) := by unfold xk; rw [hu]
  have hx2 : xk n (i + 1) = if n < 0 then -((u / 10 : Nat) : Int) else ((u / 10 : Nat) : Int) := by unfold xk; rw [hu2]
  rw [hx, hx2]
  by_cases hn : n < 0
  · rw [if_pos hn, if_pos hn, Int.neg_tdiv, Int.tdiv_eq_ediv_of_nonneg (by omega), w64 (by omega) (by omega)]
    omega
  · rw [if_neg hn, if_neg hn, Int.tdiv_eq_ediv_of_nonneg (by omega), w64 (by omega) (by omega)]
    omega
theorem dig_cases (n : Int) (i : Nat) :
    (decide ((xk n i).tmod 10 < 0) = false ∧ IntKind.u8.wrap (IntKind.i64.wrap (48 + (xk n i).tmod 10)) = (((UInt8.ofNat (48 + n.natAbs / 10 ^ i % 10)).toNat : Nat) : Int)) ∨
    (decide ((xk n i).tmod 10 < 0) = true ∧ IntKind.u8.wrap (IntKind.i64.wrap (48 + IntKind.i64.wrap (-(xk n i).tmod 10))) = (((UInt8.ofNat (48 + n.natAbs / 10 ^ i % 10)).toNat : Nat) : Int)) := by
  generalize hu : n.natAbs / 10 ^ i = u
  have hb : (UInt8.ofNat (48 + u % 10)).toNat = 48 + u % 10 := by simp; omega
  rw [hb]
  have hx : xk n i = if n < 0 then -(u : Int) else (u : Int) := by unfold xk; rw [hu]
  rw [hx]
  by_cases hn : n < 0
  · rw [if_pos hn]
    have e : (-(u : Int)).tmod 10 = -((u : Int) % 10) := by rw [Int.neg_tmod, Int.tmod_eq_emod_of_nonneg (by omega)]
    rw [e]
    by_cases h : (u : Int) % 10 = 0
    · left
      refine ⟨decide_eq_false (by omega), ?_⟩
      rw [w64 (by omega) (by omega), w8 (by omega) (by omega)]
      omega
    · right
      refine ⟨decide_eq_true (by omega), ?_⟩
      rw [w64 (n := - -((u : Int) % 10)) (by omega) (by omega), w64 (by omega) (by omega), w8 (by omega) (by omega)]
      omega
  · rw [if_neg hn, Int.tmod_eq_emod_of_nonneg (by omega)]
    left
    refine ⟨decide_eq_false (by omega), ?_⟩
    rw [w64 (by omega) (by omega), w8 (by omega) (by omega)]
    omega
theorem xk_ne {n : Int} {i : Nat} (h : n.natAbs / 10 ^ i ≠ 0) : (xk n i != 0) = true := by
  unfold xk
  generalize n.natAbs / 10 ^ i = u at *
  simp
  split <;> omega
theorem xk_eq {n : Int} {i : Nat} (h : n.natAbs / 10 ^ i = 0) : (xk n i != 0) = false := by
  unfold xk
  rw [h]
  simp
theorem i_lt19 {n : Int} (h0 : -9223372036854775808 ≤ n) (h1 : n ≤ 9223372036854775807) {i : Nat} (h : n.natAbs / 10 ^ i ≠ 0) : i < 19 := by
  rcases Nat.lt_or_ge i 19 with hi | hi
  · exact hi
  · exact absurd (Nat.div_eq_of_lt (Nat.lt_of_lt_of_le (by omega : n.natAbs < 10 ^ 19) (Nat.pow_le_pow_right (by decide) hi))) h
theorem fmtI_pos {n : Int} (h : ¬ n < 0) (h0 : n ≠ 0) : fmtI n = bs (sfx n.natAbs (Lib.nDigits n.natAbs)) := by
  rw [sfx_all _ (by omega), fmtI, Lib.itoa, if_neg h]
  congr 2
  omega
theorem fmtI_neg {n : Int} (h : n < 0) : fmtI n = ⟨#[45]⟩ ++ bs (sfx n.natAbs (Lib.nDigits n.natAbs)) := by
  rw [sfx_all _ (by omega), fmtI, Lib.itoa, if_pos h]
  exact (bs_append [45] _).symm
theorem fmtI_zero : fmtI 0 = ⟨#[48]⟩ := by simp [fmtI, Lib.itoa, Lib.decDigits, bs]
theorem fmtI_z {n : Int} (h : (n == 0) = true) : fmtI n = ⟨#[48]⟩ := by
  obtain rfl : n = 0 := by simpa using h
  exact fmtI_zero
theorem size1 (c : UInt8) (u k : Nat) : (⟨#[c]⟩ : ByteArray).size + (bs (sfx u k)).size = 1 + k := by
  rw [bs_size (sfx u k), sfx_len]
  rfl
def jn (l : List ByteArray) (sep : ByteArray) : Nat → ByteArray
  | 0 => ⟨#[]⟩
  | i + 1 => (if i = 0 then jn l sep i else jn l sep i ++ sep) ++ (l[i]?).getD ⟨#[]⟩
theorem jn_zero {l : List ByteArray} {sep x : ByteArray} (h : l[0]? = some x) : jn l sep 1 = jn l sep 0 ++ x := by simp [jn, h]
theorem jn_succ {l : List ByteArray} {sep x : ByteArray} {i : Nat} (h : l[i]? = some x) (hi : 0 < i) : jn l sep (i + 1) = jn l sep i ++ sep ++ x := by
  rw [jn, if_neg (by omega), h]; rfl
theorem jn_size {l : List ByteArray} {sep : ByteArray} {B : Nat} (hB : ∀ x ∈ l, x.size ≤ B) : ∀ i, i ≤ l.length → (jn l sep i).size ≤ i * (B + sep.size)
  | 0, _ => by rw [Nat.zero_mul]; exact Nat.le_refl 0
  | i + 1, h => by
    have ih := jn_size (sep := sep) hB i (by omega)
    have hx : l[i]? = some l[i] := List.getElem?_eq_getElem (by omega)
    have hs := hB l[i] (List.getElem_mem ..)
    rw [jn, hx]
    simp only [Option.getD_some]
    rw [Nat.succ_mul]
    split <;> simp only [ByteArray.size_append] <;> omega
def joinR (l : List ByteArray) (sep : ByteArray) : ByteArray := if l.length = 0 then ⟨#[45]⟩ else jn l sep l.length
theorem empty_app (s : ByteArray) : (⟨#[]⟩ : ByteArray) ++ s = s := by
  have := bs_append [] s.data.toList
  rw [bs_data] at this
  exact this
theorem len0_cases (l : List ByteArray) : (l.length = 0 ∧ (((l.map (fun s => [S s])).length : Int) == 0) = true) ∨ (l.length ≠ 0 ∧ (((l.map (fun s => [S s])).length : Int) == 0) = false) := by
  cases l with
  | nil => exact .inl ⟨rfl, rfl⟩
  | cons x l => exact .inr ⟨by simp, by simp; omega⟩
theorem clo_rowsS {α : Type} {en : α → List AV} (h : ∀ a, ∀ x ∈ en a, Clo x) {l : List α} : ∀ r ∈ l.map en, ∀ x ∈ r, Clo x := fun r hr x hx => by
  obtain ⟨a, _, rfl⟩ := List.mem_map.1 hr
  exact h a x hx
theorem cloS : ∀ a : ByteArray, ∀ x ∈ [S a], Clo x := fun _ => clo_cons (clo_c _) clo_nil
theorem map_take_succS {α β : Type} {f : α → β} {l : List α} {i : Nat} {x : α} (h : l[i]? = some x) : (l.take (i + 1)).map f = (l.take i).map f ++ [f x] := by rw [take_succ_of h]; simp
theorem take_map_all {α β : Type} (f : α → β) (l : List α) : (l.map f).take l.length = l.map f := List.take_of_length_le (by simp)
theorem arr_two {a : Array Value} (h : a.size = 2) : ∃ x y, a = #[x, y] := by
  cases a with
  | mk l =>
    match l, h with
    | [x, y], _ => exact ⟨x, y, rfl⟩
theorem bs_app2 (a : List UInt8) (s : ByteArray) : bs a ++ s = bs (a ++ s.data.toList) := by
  have := bs_append a s.data.toList
  rwa [bs_data] at this
theorem joinTail_snoc (sep : List UInt8) (r : List (List UInt8)) (y : List UInt8) : Lib.joinTail sep (r ++ [y]) = Lib.joinTail sep r ++ sep ++ y := by simp [Lib.joinTail]
theorem jn_join {l : List ByteArray} {sep : ByteArray} : ∀ i, i < l.length → jn l sep (i + 1) = bs (Lib.join ((l.take (i + 1)).map (·.data.toList)) sep.data.toList)
  | 0, h => by
    have hx : l[0]? = some l[0] := List.getElem?_eq_getElem h
    rw [jn_zero hx, take_succ_of hx]
    simp [jn, Lib.join_one, bs_data]
    exact empty_app _
  | i + 1, h => by
    have hx : l[i + 1]? = some l[i + 1] := List.getElem?_eq_getElem h
    have ih := jn_join (l := l) (sep := sep) i (by omega)
    rw [jn_succ hx (by omega), ih, take_succ_of hx, List.map_append]
    obtain ⟨y, r, hy⟩ : ∃ y r, (l.take (i + 1)).map (·.data.toList) = y :: r := by
      cases hq : (l.take (i + 1)).map (·.data.toList) with
      | nil => have := congrArg List.length hq; rw [List.length_map, List.length_take, List.length_nil] at this; omega
      | cons y r => exact ⟨y, r, rfl⟩
    rw [hy]
    simp only [List.map_cons, List.map_nil, List.cons_append]
    rw [Lib.join_cons, Lib.join_cons, joinTail_snoc, bs_app2, bs_app2]
    exact congrArg bs (by simp)
theorem joinR_join {l : List ByteArray} {sep : ByteArray} (h : l.length ≠ 0) : joinR l sep = bs (Lib.join (l.map (·.data.toList)) sep.data.toList) := by
  have := jn_join (l := l) (sep := sep) (l.length - 1) (by omega)
  rw [show l.length - 1 + 1 = l.length by omega, List.take_length] at this
  rw [joinR, if_neg h, this]
theorem join_v (l : List ByteArray) (sep : ByteArray) (hl : l.length ≤ 1048576) (hB : ∀ x ∈ l, x.size ≤ 67108864) (hs : sep.size ≤ 8) (h0 : l.length ≠ 0) : VCalls Tryd.prog 48 [.ro 1 (l.map (fun s => [S s])), S sep] (fun r M => r = S (joinR l sep) ∧ M = []) := by
  intro E vals hM hh hsl
  have hsz : vals.size = 2 := hsl.1
  obtain ⟨v0, v1, rfl⟩ := arr_two hsz
  have r0 := hsl.2 0 _ v0 rfl rfl
  have r1 := (hsl.2 1 _ v1 rfl rfl).c_inv
  subst r1
  obtain ⟨bk, o, c, rfl, hc, hF, hcell⟩ := rep_strs (by omega) r0
  have hlen : (Lib.join (l.map (·.data.toList)) sep.data.toList).length ≤ 140737488355328 := by
    have e := joinR_join (sep := sep) h0
    have h2 := jn_size (sep := sep) hB l.length (Nat.le_refl _)
    rw [joinR, if_neg h0] at e
    rw [e, bs_size] at h2
    have h3 : l.length * (67108864 + sep.size) ≤ 1048576 * (67108864 + 8) := Nat.mul_le_mul hl (by omega)
    omega
  refine (Tryd.strings_Join bk o c l sep E.win hcell (hh.fx _ hF) (by omega) hc hlen).mono ?_
  rintro e w' ⟨rfl, hb⟩
  obtain ⟨hh', m⟩ := hh.step hb
  refine ⟨_, S (joinR l sep), [], E.Fx, E.β, rfl, ⟨rfl, rfl⟩, hh', ⟨by rw [hM]; exact m, hb.size, fun k hk => .inl hk, fun id b v k h1 => by simp at h1⟩, ?_⟩
  rw [joinR_join h0]
  exact .c _

end Go.Proofs.YtljdhhkebebhfaaDoor.Abs

/- The walks of FormatInt and of the joined lists. -/
namespace Go.Proofs.YtljdhhkebebhfaaDoor.Abs
open Go.Proofs Go.RowKit
set_option linter.unusedVariables false
set_option linter.unusedSimpArgs false
set_option maxRecDepth 100000
set_option maxHeartbeats 2000000
attribute [local irreducible] OpA AL AW DL DLM DLR DLS QOp POp VCalls VCallsI
theorem fmt_i (n : Int) (hn : i64 n) : VCallsI Tryd.prog TabI 35 [I n] (fun r M => r = S (fmtI n) ∧ M = []) := by
  refine VCallsI.bodyE Tryd.func35 rfl 4 rfl (fun E hE hK => ?_)
  simp only [List.reduceReplicate, List.cons_append, List.nil_append]
  repeat' ((first
    | (refine iAL ?_; first | refine AL.any ?_ | refine AL.any (h := POp.kI hK Tryd.func47 (hc := itoa_v _ (by assumption))) ?_ | refine AL.nil ?_)
    | (refine iAW ?_; first | (refine AW.c0 ?_; constructor))) <;> (try dsimp only))
  all_goals exact Fin.one rfl (RV.tmp (by rfl)) (clo_c _) ⟨rfl, rfl⟩

theorem fmt_s (n : Int) (hn : i64 n) : VCalls Tryd.prog 27 [I n] (fun r M => r = S (fmtI n) ∧ M = []) := by
  refine VB Tryd.func27 30 (fun E hE => ?_)
  obtain ⟨hn0, hn1⟩ := i64_iff hn
  repeat' ((first
    | (refine iAL ?_; first | refine AL.any ?_ | refine AL.nil ?_)
    | (refine iAW ?_; first | (refine AW.c0 ?_; constructor) | refine AW.cT ?_ | refine AW.cF ?_ | (refine AW.c2 ?_ ?_ <;> (intro h; try simp only [bT, bF] at h)))
    | (refine AW.loopD hE (fun i : Nat => [I n, .any, .any, S (bs (sfx n.natAbs i)), I (xk n i), .any, .any, .any, .any, .any, .any, .any, .any, .any, .any, .any, .any, .any, .any, .any, .any, .any, .any, .any, .any, .any, .any, .any, .any, .any, .any]) (fun i => []) (fun i => (Lib.nDigits n.natAbs) - i) (fun i => i ≤ Lib.nDigits n.natAbs) 0 (Nat.zero_le _) ?_ (by first | rfl | (simp [fil_zero]; done)) ?_
       (focus ((repeat' (first | exact Wk.nil | refine Wk.any ?_ | (with_reducible refine Wk.same ?_) | refine Wk.of ?_ ?_)) <;> first | rfl | (first | rfl | (rw [xk_zero]; done) | simp [xk_zero])))
       intro i hi
       have hnz : n ≠ 0 := by have := h; simp at this; exact this
       have hu0 : 0 < n.natAbs := by omega
       by_cases hlt : i < (Lib.nDigits n.natAbs)
       case' pos =>
         have hP := True.intro
         obtain hlt' := (nd_lt i n.natAbs hu0).1 hlt
         have hne := xk_ne hlt'
         have h19 := i_lt19 hn0 hn1 hlt'
         have hq := xk_succ hn0 hn1 i
         have hct : (⟨#[UInt8.ofNat (48 + n.natAbs / 10 ^ i % 10)]⟩ : ByteArray) ++ bs (sfx n.natAbs i) = bs (sfx n.natAbs (i + 1)) := bs_append [_] _
         have hs1 : (⟨#[UInt8.ofNat (48 + n.natAbs / 10 ^ i % 10)]⟩ : ByteArray).size + (bs (sfx n.natAbs i)).size ≤ 9223372036854775807 := by rw [size1]; omega
         rcases dig_cases n i with ⟨hd, hv⟩ | ⟨hd, hv⟩
       case' neg =>
         have hQ := True.intro
         have e : i = (Lib.nDigits n.natAbs) := by omega
         have hz : n.natAbs / 10 ^ i = 0 := Classical.byContradiction fun hne => hlt ((nd_lt i n.natAbs hu0).2 hne)
         have hne := xk_eq hz
         subst e
         have hs2 : (⟨#[45]⟩ : ByteArray).size + (bs (sfx n.natAbs (Lib.nDigits n.natAbs))).size ≤ 9223372036854775807 := by
           rw [size1]
           have h3 : Lib.nDigits n.natAbs - 1 < 19 := i_lt19 hn0 hn1 ((nd_lt _ n.natAbs hu0).1 (by have := (nd_lt 0 n.natAbs hu0).2 (by simp; omega); omega))
           omega)
    | with_reducible refine ifP ?_
    | with_reducible refine ifN ?_) <;> (try dsimp only))
  all_goals first
    | (have _ := hP; (refine ⟨i + 1, _, hlt, by omega, ?_, rfl, ?_, ?_⟩; (focus ((repeat' (first | exact Wk.nil | refine Wk.any ?_ | (with_reducible refine Wk.same ?_) | refine Wk.of ?_ ?_)) <;> (first | (rw [hq]; done) | (rw [hct]; done) | rfl))); (focus (exact fitsA)); (focus (exact FitsM.nil _))))
    | (have _ := hQ; first | exact Fin.one rfl (RV.tmp (by rfl)) (clo_c _) ⟨by rw [fmtI_neg (by simpa using h)], rfl⟩ | exact Fin.one rfl (RV.tmp (by rfl)) (clo_c _) ⟨by rw [fmtI_pos (by simpa using h) hnz], rfl⟩)
    | (exact Fin.one rfl (RV.tmp (by rfl)) (clo_c _) ⟨by rw [fmtI_z h], rfl⟩)

theorem join_s (l : List ByteArray) (sep : ByteArray) (hl : l.length ≤ 1048576) (hB : ∀ x ∈ l, x.size ≤ 67108864) (hs : sep.size ≤ 8) : VCalls Tryd.prog 28 [.ro 1 (l.map (fun s => [S s])), S sep] (fun r M => r = S (joinR l sep) ∧ M = []) := by
  refine VB Tryd.func28 26 (fun E hE => ?_)
  repeat' ((first
    | (refine iAL ?_; first | refine AL.any ?_ | refine AL.nil ?_)
    | (refine iAW ?_; first | (refine AW.c0 ?_; constructor) | refine AW.cT ?_ | refine AW.cF ?_ | (refine AW.c2 ?_ ?_ <;> (intro h; try simp only [bT, bF] at h)))
    | (refine AW.loopD hE (fun i : Nat => [.ro 1 (l.map (fun s => [S s])), S sep, .any, .any, .any, S (jn l sep i), I i, .any, .any, .any, .any, .any, .any, .any, .any, .any, .any, .any, .any, .any, .any, .any, .any, .any, .any, .any, .any, .any]) (fun i => []) (fun i => l.length - i) (fun i => i ≤ l.length) 0 (by simp) ?_ (by first | rfl | (simp [fil_zero]; done)) ?_
       (focus ((repeat' (first | exact Wk.nil | refine Wk.any ?_ | (with_reducible refine Wk.same ?_) | refine Wk.of ?_ ?_)) <;> first | rfl | (rfl)))
       intro i hi
       have hclo : Clo (.ro 1 (l.map (fun s => [S s]))) := clo_list (fun _ => clo_cons (clo_c _) clo_nil)
       by_cases hlt : i < l.length
       case' pos =>
         have hP := True.intro
         obtain ⟨x, hx⟩ : ∃ x, l[i]? = some x := ⟨_, List.getElem?_eq_getElem hlt⟩
         have hg := map_get (f := (fun s => [S s])) hx
         have ht := lt_true (f := (fun s => [S s])) hlt
         have hn := next_ix hlt (by omega)
         have hxs := hB x (List.mem_of_getElem? hx)
         have hj := jn_size (sep := sep) hB i (by omega)
         have hk1 : i * (67108864 + sep.size) ≤ 1048576 * (67108864 + 8) := Nat.mul_le_mul (by omega) (by omega)
         have hc1 : (jn l sep i).size + sep.size ≤ 9223372036854775807 := by omega
         have hc2 : (jn l sep i ++ sep).size + x.size ≤ 9223372036854775807 := by rw [ByteArray.size_append]; omega
         have hc3 : (jn l sep i).size + x.size ≤ 9223372036854775807 := by omega
         have hjs : (i = 0 ∧ decide ((i : Int) > 0) = false ∧ jn l sep (i + 1) = jn l sep i ++ x) ∨ (decide ((i : Int) > 0) = true ∧ jn l sep (i + 1) = jn l sep i ++ sep ++ x) := by
           rcases Nat.eq_zero_or_pos i with h0 | h0
           · subst h0; exact .inl ⟨rfl, by simp, jn_zero hx⟩
           · exact .inr ⟨decide_eq_true (by omega), jn_succ hx h0⟩
         rcases hjs with ⟨_, hgt, hjq⟩ | ⟨hgt, hjq⟩
       case' neg =>
         have hQ := True.intro
         have ht := lt_false (f := (fun s => [S s])) hlt
         have e : i = l.length := by omega
         subst e
         try rw [List.take_length])
    | with_reducible refine ifP ?_
    | with_reducible refine ifN ?_) <;> (try dsimp only))
  all_goals first
    | (have _ := hP; (refine ⟨i + 1, _, hlt, by omega, ?_, rfl, ?_, ?_⟩; (focus ((repeat' (first | exact Wk.nil | refine Wk.any ?_ | (with_reducible refine Wk.same ?_) | refine Wk.of ?_ ?_)) <;> (first | (rw [hn]; done) | (rw [hjq]; done) | rfl))); (focus (exact fitsA)); (focus (exact FitsM.nil _))))
    | (have _ := hQ; first | exact Fin.one rfl (RV.tmp (by rfl)) (clo_c _) ⟨by rw [joinR, if_pos (by simpa using h)], rfl⟩ | exact Fin.one rfl (RV.tmp (by rfl)) (clo_c _) ⟨by rw [joinR, if_neg (by simpa using h)], rfl⟩)

theorem joined_i (l : List ByteArray) (sep : ByteArray) (hl : l.length ≤ 1048576) (hB : ∀ x ∈ l, x.size ≤ 67108864) (hs : sep.size ≤ 8) : VCalls Tryd.prog 36 [.ro 1 (l.map (fun s => [S s])), S sep] (fun r M => r = S (joinR l sep) ∧ M = []) := by
  refine VB Tryd.func36 9 (fun E hE => ?_)
  have hclo : Clo (.ro 1 (l.map (fun s => [S s]))) := clo_list (fun _ => clo_cons (clo_c _) clo_nil)
  rcases len0_cases l with ⟨hl0, hlz⟩ | ⟨hl0, hlz⟩
  repeat' ((first
    | (refine iAL ?_; first | refine AL.any ?_ | refine AL.any (h := POp.k Tryd.func48 (hc := join_v _ _ (by assumption) (by assumption) (by first | assumption | decide) (by assumption))) ?_ | refine AL.nil ?_)
    | (refine iAW ?_; first | (refine AW.c0 ?_; constructor) | refine AW.cT ?_ | refine AW.cF ?_ | (refine AW.c2 ?_ ?_ <;> (intro h; try simp only [bT, bF] at h)))) <;> (try dsimp only))
  all_goals first | exact Fin.one rfl (RV.tmp (by rfl)) (clo_c _) ⟨by rw [joinR, if_pos hl0], rfl⟩ | exact Fin.one rfl (RV.tmp (by rfl)) (clo_c _) ⟨rfl, rfl⟩

theorem nums_s (l : List Int) (hl : l.length ≤ 1048576) (hok : ∀ x ∈ l, i64 x) : VCalls Tryd.prog 13 [.ro 1 (l.map (fun n => [I n]))] (fun r M => r = S (joinR (l.map fmtI) ⟨#[32]⟩) ∧ M = []) := by
  refine VB Tryd.func13 21 (fun E hE => ?_)
  repeat' ((first
    | (refine iAL ?_; first | refine AL.any ?_ | refine AL.any (h := POp.k Tryd.func27 (hc := fmt_s _ (by assumption))) ?_ | refine AL.any (h := POp.k Tryd.func28 (hc := join_s (l.map fmtI) _ (by assumption) (by assumption) (by first | assumption | decide))) ?_ | refine AL.nil ?_)
    | (refine iAW ?_; first | (refine AW.c0 ?_; constructor) | refine AW.cT ?_ | refine AW.cF ?_ | (refine AW.c2 ?_ ?_ <;> (intro h; try simp only [bT, bF] at h)))
    | (refine AW.loopD hE (fun i : Nat => [.ro 1 (l.map (fun n => [I n])), .any, .any, .own 0 i, I i, .any, .any, .any, .any, .any, .any, .any, .any, .any, .any, .any, .any, .any, .any, .any, .any, .any]) (fun i => [some ⟨9, 1, i, false, ((l.map fmtI).take i).map (fun s => [S s])⟩]) (fun i => l.length - i) (fun i => i ≤ l.length) 0 (by simp) ?_ (by first | rfl | (simp [fil_zero]; done)) ?_
       (focus (exact wkI))
       intro i hi
       have hclo : Clo (.ro 1 (l.map (fun n => [I n]))) := clo_list (fun _ => clo_cons (clo_c _) clo_nil)
       by_cases hlt : i < l.length
       case' pos =>
         have hP := True.intro
         obtain ⟨x, hx⟩ : ∃ x, l[i]? = some x := ⟨_, List.getElem?_eq_getElem hlt⟩
         have hg := map_get (f := (fun n => [I n])) hx
         have ht := lt_true (f := (fun n => [I n])) hlt
         have hn := next_ix hlt (by omega)
         have hxm := List.mem_of_getElem? hx
         have hs : (l.map fmtI)[i]? = some (fmtI x) := by rw [List.getElem?_map, hx]; rfl
         have hm := map_take_succS (f := fun s => [S s]) hs
         have hnx := hok x hxm
       case' neg =>
         have hQ := True.intro
         have ht := lt_false (f := (fun n => [I n])) hlt
         have e : i = l.length := by omega
         subst e
         try rw [List.take_length]
         have hlm : (l.map fmtI).length ≤ 1048576 := by simpa using hl
         have hclR : Clo (.ro 1 ((l.map fmtI).map (fun s => [S s]))) := clo_list cloS
         rw [take_map_all]
         have hB : ∀ x ∈ l.map fmtI, x.size ≤ 67108864 := fun x hx => by
           obtain ⟨y, hy, rfl⟩ := List.mem_map.1 hx
           have := fmtI_size (hok y hy)
           omega
         refine AW.freeze (t := 3) (id := 0) rfl rfl rfl rfl (clo_rowsS cloS) ?_
         try dsimp only [dput, List.set, cond_true, cond_false, Nat.zero_add, Nat.add_zero, Nat.reduceAdd, splice, List.take, List.drop, List.length, List.nil_append, List.cons_append, List.append, TPoint.en, TSegment.en, TBox.en, TFeature.en, TMeet.en, TPlace.en, TCover.en, TLabel.en, TPiece.en, TLevel.en, TChart.en, TReason.en, TEdit.en, TEntry.en, TEdition.en, TListing.en, TAtlas.en, TEvent.en, TWindow.en])
    | with_reducible refine ifP ?_
    | with_reducible refine ifN ?_) <;> (try dsimp only))
  all_goals first
    | (have _ := hP; (refine ⟨i + 1, _, hlt, by omega, ?_, by rw [hm] <;> rfl, ?_, ?_⟩; (focus (exact wkN)); (focus (exact fitsA)); (focus (exact fits_row (clo_rowsS cloS)))))
    | (have _ := hQ; exact Fin.one rfl (RV.tmp (by rfl)) (clo_c _) ⟨rfl, rfl⟩)

theorem nums_i (l : List Int) (hl : l.length ≤ 1048576) (hok : ∀ x ∈ l, i64 x) : VCallsI Tryd.prog TabI 19 [.ro 1 (l.map (fun n => [I n]))] (fun r M => r = S (joinR (l.map fmtI) ⟨#[32]⟩) ∧ M = []) := by
  refine VCallsI.bodyE Tryd.func19 rfl 20 rfl (fun E hE hK => ?_)
  simp only [List.reduceReplicate, List.cons_append, List.nil_append]
  repeat' ((first
    | (refine iAL ?_; first | refine AL.any ?_ | refine AL.any (h := POp.kI hK Tryd.func35 (hc := fmt_i _ (by assumption))) ?_ | refine AL.any (h := POp.k Tryd.func36 (hc := joined_i (l.map fmtI) _ (by assumption) (by assumption) (by first | assumption | decide))) ?_ | refine AL.nil ?_)
    | (refine iAW ?_; first | (refine AW.c0 ?_; constructor) | refine AW.cT ?_ | refine AW.cF ?_ | (refine AW.c2 ?_ ?_ <;> (intro h; try simp only [bT, bF] at h)))
    | (refine AW.loopD hE (fun i : Nat => [.any, .any, .any, .own 0 i, .any, .any, .any, .ro 1 (l.map (fun n => [I n])), I (l.map (fun n => [I n])).length, I i, .any, .any, .any, .any, .any, .any, .any, .any, .any, .any, .any]) (fun i => [some ⟨9, 1, i, false, ((l.map fmtI).take i).map (fun s => [S s])⟩]) (fun i => l.length - i) (fun i => i ≤ l.length) 0 (by simp) ?_ (by first | rfl | (simp [fil_zero]; done)) ?_
       (focus (exact wkI))
       intro i hi
       have hclo : Clo (.ro 1 (l.map (fun n => [I n]))) := clo_list (fun _ => clo_cons (clo_c _) clo_nil)
       by_cases hlt : i < l.length
       case' pos =>
         have hP := True.intro
         obtain ⟨x, hx⟩ : ∃ x, l[i]? = some x := ⟨_, List.getElem?_eq_getElem hlt⟩
         have hg := map_get (f := (fun n => [I n])) hx
         have ht := lt_true (f := (fun n => [I n])) hlt
         have hn := next_ix hlt (by omega)
         have hxm := List.mem_of_getElem? hx
         have hs : (l.map fmtI)[i]? = some (fmtI x) := by rw [List.getElem?_map, hx]; rfl
         have hm := map_take_succS (f := fun s => [S s]) hs
         have hnx := hok x hxm
       case' neg =>
         have hQ := True.intro
         have ht := lt_false (f := (fun n => [I n])) hlt
         have e : i = l.length := by omega
         subst e
         try rw [List.take_length]
         have hlm : (l.map fmtI).length ≤ 1048576 := by simpa using hl
         have hclR : Clo (.ro 1 ((l.map fmtI).map (fun s => [S s]))) := clo_list cloS
         rw [take_map_all]
         have hB : ∀ x ∈ l.map fmtI, x.size ≤ 67108864 := fun x hx => by
           obtain ⟨y, hy, rfl⟩ := List.mem_map.1 hx
           have := fmtI_size (hok y hy)
           omega
         refine AW.freeze (t := 3) (id := 0) rfl rfl rfl rfl (clo_rowsS cloS) ?_
         try dsimp only [dput, List.set, cond_true, cond_false, Nat.zero_add, Nat.add_zero, Nat.reduceAdd, splice, List.take, List.drop, List.length, List.nil_append, List.cons_append, List.append, TPoint.en, TSegment.en, TBox.en, TFeature.en, TMeet.en, TPlace.en, TCover.en, TLabel.en, TPiece.en, TLevel.en, TChart.en, TReason.en, TEdit.en, TEntry.en, TEdition.en, TListing.en, TAtlas.en, TEvent.en, TWindow.en])
    | with_reducible refine ifP ?_
    | with_reducible refine ifN ?_) <;> (try dsimp only))
  all_goals first
    | (have _ := hP; (refine ⟨i + 1, _, hlt, by omega, ?_, by rw [hm] <;> rfl, ?_, ?_⟩; (focus (exact wkN)); (focus (exact fitsA)); (focus (exact fits_row (clo_rowsS cloS)))))
    | (have _ := hQ; exact Fin.one rfl (RV.tmp (by rfl)) (clo_c _) ⟨rfl, rfl⟩)

noncomputable def atlL (a : TAtlas) : List Int := [a.now, ((a.log.map TEntry.en).length : Int), ((a.levels.map TLevel.en).length : Int), ((a.editions.map TEdition.en).length : Int), (((rgO a.cover.w a.cover.h a.cover.cells).map enI).length : Int)]
noncomputable def atlT (a : TAtlas) : ByteArray := joinR ((atlL a).map fmtI) ⟨#[32]⟩
theorem len_i64 {α β : Type} {f : α → β} {l : List α} (hl : l.length ≤ maxLen) : i64 (((l.map f).length : Nat) : Int) := by
  rw [maxLen_eq] at hl
  rw [List.length_map]
  have e1 : IntKind.i64.min = -9223372036854775808 := rfl
  have e2 : IntKind.i64.max = 9223372036854775807 := rfl
  simp [i64, Lit.wf, e1, e2]
  omega
theorem atlL_ok {a : TAtlas} (hk : a.ok) : ∀ x ∈ atlL a, i64 x := by
  intro x hx
  unfold atlL at hx
  simp only [List.mem_cons, List.mem_nil_iff, or_false] at hx
  rcases hx with rfl | rfl | rfl | rfl | rfl
  · exact hk.2.2.2.2
  · exact len_i64 hk.1.1
  · exact len_i64 hk.2.1.1
  · exact len_i64 hk.2.2.1.1
  · exact len_i64 (Nat.le_trans (rgO_len _ _ _) (by rw [maxLen_eq]; decide))
theorem fatl_s (a : TAtlas) (hk : a.ok) : VCalls Tryd.prog 5 [.agg a.en] (fun r M => r = S (atlT a) ∧ M = []) := by
  refine VB Tryd.func5 19 (fun E hE => ?_)
  have hcs : a.cover.cells.size ≤ 9223372036854775807 := by have := hk.2.2.2.1.2.2; rw [maxLen_eq] at this; exact this
  have hclA : Clo (.agg a.en) := Clo.agg a.clo_en
  have hcl1 : Clo (.ro 8 (a.log.map TEntry.en)) := clo_list TEntry.clo_en
  have hcl2 : Clo (.ro 3 (a.levels.map TLevel.en)) := clo_list TLevel.clo_en
  have hcl3 : Clo (.ro 3 (a.editions.map TEdition.en)) := clo_list TEdition.clo_en
  have hclR : Clo (.ro 1 ((rgO a.cover.w a.cover.h a.cover.cells).map enI)) := clo_list (fun m => clo_cons (clo_c _) clo_nil)
  have hok5 := atlL_ok hk
  have hclL : Clo (.ro 1 [[I a.now], [I ((a.log.map TEntry.en).length : Int)], [I ((a.levels.map TLevel.en).length : Int)], [I ((a.editions.map TEdition.en).length : Int)], [I (((rgO a.cover.w a.cover.h a.cover.cells).map enI).length : Int)]]) := Clo.ro (clo_rows_b rfl)
  have hN : VCalls Tryd.prog 13 [.ro 1 [[I a.now], [I ((a.log.map TEntry.en).length : Int)], [I ((a.levels.map TLevel.en).length : Int)], [I ((a.editions.map TEdition.en).length : Int)], [I (((rgO a.cover.w a.cover.h a.cover.cells).map enI).length : Int)]]] (fun r M => r = S (atlT a) ∧ M = []) := nums_s (atlL a) (Nat.le_of_ble_eq_true rfl) hok5
  dsimp only [TAtlas.en]
  repeat' ((first
    | (refine iAL ?_; first | refine AL.any (h := POp.lit0 (RowRun.literal (by rfl) rwk45 (by rfl) (by rfl) (by rfl) (by rfl) (by rfl) (by rfl)) (clo_rows_b rfl)) ?_ | refine AL.any ?_ | refine AL.any (h := POp.k Tryd.func13 (hc := hN)) ?_ | refine AL.nil ?_)
    | ((with_reducible show DL ..); first | refine DL.any ?_ | refine DL.any (h := POp.k Tryd.func14 (hc := rgO_s' a.cover.w a.cover.h a.cover.cells hcs)) ?_ | refine DL.nil ?_)
    | ((with_reducible show DLR ..); first | refine DLR.any ?_ | refine DLR.alloc rfl rfl (by first | exact ze2 | exact ze3 | exact ze4 | exact ze5 | exact ze6 | exact ze8 | exact ze9 | exact ze11 | exact ze12 | exact ze14 | exact ze17 | exact ze19 | exact ze31 | exact ze32 | exact ze33 | exact ze34 | exact ze36 | exact ze45 | exact ze74 | exact ze77 | exact ze82) rfl rfl ?_ | refine DLR.box rfl rfl (by rfl) (by rfl) rfl rfl ?_ | refine DLR.store rfl rfl (by rfl) rfl rfl rfl rfl rfl (by rfl) (by rfl) (TT_ok.ld _ _ (by rfl)) (by rfl) (by rfl) rfl ?_ | refine DLR.any (h := fun Y => POp.k Tryd.func14 (hc := rgO_s' a.cover.w a.cover.h a.cover.cells hcs)) ?_ | refine DLR.row rfl (fun Y => RowRun.empty (by rfl) (by rfl) (by first | exact rwk31 | exact rwk32 | exact rwk33 | exact rwk45)) rfl rfl ?_ | refine DLR.row rfl (fun Y => RowRun.literal (by rfl) (by first | exact rwk31 | exact rwk32 | exact rwk33 | exact rwk45) (by rfl) (by rfl) (by rfl) (by rfl) (by rfl) (by rfl)) rfl rfl ?_ | refine DLR.append rfl (by rfl) (by first | exact rwk31 | exact rwk32 | exact rwk33 | exact rwk45) (by rfl) rfl rfl rfl rfl rfl rfl (by rfl) (by first | (simp <;> omega) | omega) (by first | (simp [maxLen] <;> omega) | (simp_all [maxLen] <;> omega)) ?_ | refine DLR.nil ?_)
    | (refine iAW ?_; first | (refine AW.c0 ?_; constructor) | refine AW.drawnR (id := 1) 15 0 [none, none, none, none, none, none, none, none, none, none, none, none, none, none, none] [] rfl (by kernel_rfl) (by kernel_rfl) (by kernel_rfl) (by rfl) ?_)) <;> (try dsimp only))
  all_goals exact Fin.one rfl (RV.tmp (by rfl)) (clo_c _) ⟨rfl, rfl⟩

theorem fatl_i (a : TAtlas) (hk : a.ok) : VCallsI Tryd.prog TabI 7 [.agg a.en] (fun r M => r = S (atlT a) ∧ M = []) := by
  refine VCallsI.bodyE Tryd.func7 rfl 19 rfl (fun E hE hK => ?_)
  simp only [List.reduceReplicate, List.cons_append, List.nil_append]
  have hcs : a.cover.cells.size ≤ 9223372036854775807 := by have := hk.2.2.2.1.2.2; rw [maxLen_eq] at this; exact this
  have hclA : Clo (.agg a.en) := Clo.agg a.clo_en
  have hcl1 : Clo (.ro 8 (a.log.map TEntry.en)) := clo_list TEntry.clo_en
  have hcl2 : Clo (.ro 3 (a.levels.map TLevel.en)) := clo_list TLevel.clo_en
  have hcl3 : Clo (.ro 3 (a.editions.map TEdition.en)) := clo_list TEdition.clo_en
  have hclR : Clo (.ro 1 ((rgO a.cover.w a.cover.h a.cover.cells).map enI)) := clo_list (fun m => clo_cons (clo_c _) clo_nil)
  have hok5 := atlL_ok hk
  have hclL : Clo (.ro 1 [[I a.now], [I ((a.log.map TEntry.en).length : Int)], [I ((a.levels.map TLevel.en).length : Int)], [I ((a.editions.map TEdition.en).length : Int)], [I (((rgO a.cover.w a.cover.h a.cover.cells).map enI).length : Int)]]) := Clo.ro (clo_rows_b rfl)
  have hN : VCallsI Tryd.prog TabI 19 [.ro 1 [[I a.now], [I ((a.log.map TEntry.en).length : Int)], [I ((a.levels.map TLevel.en).length : Int)], [I ((a.editions.map TEdition.en).length : Int)], [I (((rgO a.cover.w a.cover.h a.cover.cells).map enI).length : Int)]]] (fun r M => r = S (atlT a) ∧ M = []) := nums_i (atlL a) (Nat.le_of_ble_eq_true rfl) hok5
  dsimp only [TAtlas.en]
  repeat' ((first
    | (refine iAL ?_; first | refine AL.any (h := POp.lit0 (RowRun.literal (by rfl) rwk45 (by rfl) (by rfl) (by rfl) (by rfl) (by rfl) (by rfl)) (clo_rows_b rfl)) ?_ | refine AL.any ?_ | refine AL.any (h := POp.kI hK Tryd.func19 (hc := hN)) ?_ | refine AL.nil ?_)
    | ((with_reducible show DL ..); first | refine DL.any ?_ | refine DL.any (h := POp.k Tryd.func20 (hc := rgO_i' a.cover.w a.cover.h a.cover.cells hcs)) ?_ | refine DL.nil ?_)
    | ((with_reducible show DLR ..); first | refine DLR.any ?_ | refine DLR.alloc rfl rfl (by first | exact ze2 | exact ze3 | exact ze4 | exact ze5 | exact ze6 | exact ze8 | exact ze9 | exact ze11 | exact ze12 | exact ze14 | exact ze17 | exact ze19 | exact ze31 | exact ze32 | exact ze33 | exact ze34 | exact ze36 | exact ze45 | exact ze74 | exact ze77 | exact ze82) rfl rfl ?_ | refine DLR.box rfl rfl (by rfl) (by rfl) rfl rfl ?_ | refine DLR.store rfl rfl (by rfl) rfl rfl rfl rfl rfl (by rfl) (by rfl) (TT_ok.ld _ _ (by rfl)) (by rfl) (by rfl) rfl ?_ | refine DLR.any (h := fun Y => POp.k Tryd.func20 (hc := rgO_i' a.cover.w a.cover.h a.cover.cells hcs)) ?_ | refine DLR.row rfl (fun Y => RowRun.empty (by rfl) (by rfl) (by first | exact rwk31 | exact rwk32 | exact rwk33 | exact rwk45)) rfl rfl ?_ | refine DLR.row rfl (fun Y => RowRun.literal (by rfl) (by first | exact rwk31 | exact rwk32 | exact rwk33 | exact rwk45) (by rfl) (by rfl) (by rfl) (by rfl) (by rfl) (by rfl)) rfl rfl ?_ | refine DLR.append rfl (by rfl) (by first | exact rwk31 | exact rwk32 | exact rwk33 | exact rwk45) (by rfl) rfl rfl rfl rfl rfl rfl (by rfl) (by first | (simp <;> omega) | omega) (by first | (simp [maxLen] <;> omega) | (simp_all [maxLen] <;> omega)) ?_ | refine DLR.nil ?_)
    | (refine iAW ?_; first | (refine AW.c0 ?_; constructor) | refine AW.drawnR (id := 1) 15 0 [none, none, none, none, none, none, none, none, none, none, none, none, none, none, none] [] rfl (by kernel_rfl) (by kernel_rfl) (by kernel_rfl) (by rfl) ?_)) <;> (try dsimp only))
  all_goals exact Fin.one rfl (RV.tmp (by rfl)) (clo_c _) ⟨rfl, rfl⟩

theorem law_FnExactFormatAtlas (a : TAtlas) (h0 : a.ok) : VCallsI Tryd.prog TabI 3 [.agg a.en] (fun r M => r = B true ∧ M = []) := by
  refine VCallsI.bodyE Tryd.func3 rfl 26 rfl (fun E hE hK => ?_)
  simp only [List.reduceReplicate, List.cons_append, List.nil_append]
  have hclo_a : Clo (.agg a.en) := Clo.agg a.clo_en
  rcases Szs.split (TAtlas.szs) a 1048576 h0 (by decide) (by decide) with hz | ⟨hz, hsm0, hz0, hz1⟩
  repeat' ((first
    | (refine iAL ?_; first | refine AL.any ?_ | refine AL.any (h := POp.k Tryd.func4 (hc := szAtlas a _ (by assumption))) ?_ | refine AL.any (h := POp.k Tryd.func5 (hc := fatl_s a (by assumption))) ?_ | refine AL.any (h := POp.k Tryd.func6 (hc := toAtlas a (by assumption))) ?_ | refine AL.any (h := POp.kI hK Tryd.func7 (hc := fatl_i a (by assumption))) ?_ | refine AL.any (h := POp.k Tryd.func8 (hc := eqAtlas_self a (by assumption))) ?_ | refine AL.nil ?_)
    | ((with_reducible show DL ..); first | refine DL.any ?_ | refine DL.any (h := POp.k Tryd.func6 (hc := toAtlas a (by assumption))) ?_ | refine DL.nil ?_)
    | (refine iAW ?_; first | (refine AW.c0 ?_; constructor) | refine AW.dr (id := 10) 3 ?_ | refine AW.cT ?_ | refine AW.cF ?_ | (refine AW.c2 ?_ ?_ <;> (intro h; try simp only [bT, bF] at h)))) <;> (try dsimp only))
  all_goals exact Fin.one rfl (RV.tmp (by rfl)) (clo_c _) ⟨by first | rfl | (simp_all; done), rfl⟩

end Go.Proofs.YtljdhhkebebhfaaDoor.Abs
