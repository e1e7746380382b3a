/- Part A of the walk over abstract states and of the functions' walks. -/
import Derived.Test.YtljdhhkebebhfaaDoorWkStep
import Derived.Test.YtljdhhkebebhfaaDoorWkTo
import Derived.Test.YtljdhhkebebhfaaDoorWkEq
import Derived.WalkKit
import Derived.Lib.Bytealg
import Derived.Laws.Externs
/- The walks of points and lines. -/
namespace Go.Proofs.YtljdhhkebebhfaaDoor.Abs
open Go.Proofs Go.RowKit
set_option linter.unusedVariables false
set_option linter.unusedSimpArgs false
set_option maxRecDepth 100000
set_option maxHeartbeats 2000000
attribute [local irreducible] OpA AL AW DL DLM DLR DLS QOp POp VCalls VCallsI
def inr (a b c : Int) : Bool := decide (b ≤ a) && decide (a ≤ c)
theorem inr_v (a b c : Int) : VCalls Tryd.prog 59 [I a, I b, I c] (fun r M => r = B (inr a b c) ∧ M = []) := by
  refine VB Tryd.func59 12 (fun E hE => ?_)
  repeat' ((first
    | (refine iAL ?_; first | refine AL.any ?_ | refine AL.U ?_ | refine AL.F ?_ | refine AL.T ?_ | refine AL.W ?_ | refine AL.nil ?_)
    | (refine iAW ?_; first | (refine AW.c0 ?_; constructor))) <;> (try dsimp only))
  all_goals exact Fin.one rfl (RV.tmp (by rfl)) (clo_c _) ⟨by first | rfl | (simp_all [inr]; done) | (simp only [inr]; split <;> simp_all <;> omega), rfl⟩

theorem inr_s (a b c : Int) : VCalls Tryd.prog 43 [I a, I b, I c] (fun r M => r = B (inr a b c) ∧ M = []) := by
  refine VB Tryd.func43 12 (fun E hE => ?_)
  repeat' ((first
    | (refine iAL ?_; first | refine AL.any ?_ | refine AL.U ?_ | refine AL.F ?_ | refine AL.T ?_ | refine AL.W ?_ | refine AL.nil ?_)
    | (refine iAW ?_; first | (refine AW.c0 ?_; constructor))) <;> (try dsimp only))
  all_goals exact Fin.one rfl (RV.tmp (by rfl)) (clo_c _) ⟨by first | rfl | (simp_all [inr]; done) | (simp only [inr]; split <;> simp_all <;> omega), rfl⟩

end Go.Proofs.YtljdhhkebebhfaaDoor.Abs

/- The walks of IsCover and ShareOf. -/
namespace Go.Proofs.YtljdhhkebebhfaaDoor.Abs
open Go.Proofs Go.RowKit
set_option linter.unusedVariables false
set_option linter.unusedSimpArgs false
set_option maxRecDepth 100000
set_option maxHeartbeats 2000000
attribute [local irreducible] OpA AL AW DL DLM DLR DLS QOp POp VCalls VCallsI
open Go.Lib (countByte run_countString)
def covAt (s : ByteArray) (i : Nat) : Bool := match s[i]? with
  | none => false
  | some b => !(decide (((b.toNat : Nat) : Int) < 97) || decide (((b.toNat : Nat) : Int) > 122))
def covTo (s : ByteArray) (n : Nat) : Bool := (List.range n).all (covAt s)
theorem covTo_succ (s : ByteArray) (i : Nat) : covTo s (i + 1) = (covTo s i && covAt s i) := by simp [covTo, List.range_succ]
theorem covTo_not {s : ByteArray} {i n : Nat} (h : covAt s i = false) (hi : i < n) : covTo s n = false := by
  simp only [covTo, List.all_eq_false, List.mem_range]
  exact ⟨i, hi, by simp [h]⟩
def isCover (w g : Int) (s : ByteArray) : Bool := inr w 1 6 && inr g 1 6 && ((s.size : Int) == IntKind.i64.wrap (w * g)) && covTo s s.size
theorem isCover_size {w g : Int} {s : ByteArray} (hc : isCover w g s = true) : 1 ≤ s.size ∧ s.size ≤ 36 := by
  simp only [isCover, inr, Bool.and_eq_true, decide_eq_true_eq, beq_iff_eq] at hc
  obtain ⟨⟨⟨hw, hh⟩, hs⟩, _⟩ := hc
  have h1 : 1 * 1 ≤ w * g := Int.mul_le_mul hw.1 hh.1 (by omega) (by omega)
  have h2 : w * g ≤ 6 * 6 := Int.mul_le_mul hw.2 hh.2 (by omega) (by omega)
  rw [w64 (by omega) (by omega)] at hs
  omega
theorem str_get {s : ByteArray} {i : Nat} (h : i < s.size) : ∃ b : UInt8, s[i]? = some b ∧ s[((i : Nat) : Int).toNat]? = some b := ⟨s[i], by simp [h], by rw [Int.toNat_natCast]; simp [h]⟩
theorem covAt_some {s : ByteArray} {i : Nat} {b : UInt8} (h : s[i]? = some b) : covAt s i = !(decide (((b.toNat : Nat) : Int) < 97) || decide (((b.toNat : Nat) : Int) > 122)) := by simp [covAt, h]
theorem str_lt {s : ByteArray} {i : Nat} (h : i < s.size) : decide ((i : Int) < (s.size : Int)) = true := by simp; omega
theorem str_ge {s : ByteArray} {i : Nat} (h : ¬ i < s.size) : decide ((i : Int) < (s.size : Int)) = false := by simp; omega
theorem u8_eq (a b : UInt8) : (((a.toNat : Nat) : Int) == ((b.toNat : Nat) : Int)) = decide (a = b) := by
  by_cases e : a = b
  · simp [e]
  · have : a.toNat ≠ b.toNat := fun h => e (UInt8.toNat_inj.1 h)
    simp [e]; omega
theorem isCover_s (w g : Int) (s : ByteArray) (hs : s.size ≤ 9223372036854775807) : VCalls Tryd.prog 29 [.agg [I w, I g, S s]] (fun r M => r = B (isCover w g s) ∧ M = []) := by
  refine VB Tryd.func29 43 (fun E hE => ?_)
  repeat' ((first
    | (refine iAL ?_; first | refine AL.any ?_ | refine AL.any (h := POp.k Tryd.func43 (hc := inr_s _ _ _)) ?_ | refine AL.U ?_ | refine AL.F ?_ | refine AL.T ?_ | refine AL.T (h := POp.k Tryd.func43 (hc := inr_s _ _ _)) ?_ | refine AL.W ?_ | refine AL.W (h := fun h => by (try rw [h]); exact POp.k Tryd.func43 (hc := inr_s _ _ _)) ?_ | refine AL.nil ?_)
    | (refine iAW ?_; first | (refine AW.c0 ?_; constructor) | refine AW.cT ?_ | refine AW.cF ?_ | (refine AW.c2 ?_ ?_ <;> (intro h; try simp only [bT, bF] at h)))
    | (refine AW.loopD hE (fun i : Nat => [.agg [I w, I g, S s], .ref 0 0 3 0 0, .any, I i, .any, .any, .any, .any, .any, .any, .any, .any, .any, .any, .any, .any, .any, .any, .any, .any, .any, .any, .any, .any, .any, .any, .any, .any, .any, .any, .any, .any, .any, .any, .any, .any, .any, .any, .any, .any, .any, .any, .any, .any]) (fun i => [some ⟨34, 3, 0, true, [[I w, I g, S s]]⟩]) (fun i => s.size - i) (fun i => i ≤ s.size ∧ covTo s i = true) 0 ⟨Nat.zero_le _, by simp [covTo]⟩ ?_ (by first | rfl | (simp [fil_zero]; done)) ?_
       (focus (exact wkI))
       intro i hi
       by_cases hlt : i < s.size
       case' pos =>
         have hP := True.intro
         obtain ⟨b, hb, hb'⟩ := str_get hlt
         have ht := str_lt hlt
         have hn := next_ix hlt (by omega)
         have hc := covAt_some hb
         have hsu := covTo_succ s i
       case' neg =>
         have hQ := True.intro
         have e : i = s.size := by omega
         have ht := str_ge hlt
         subst e)
    | with_reducible refine ifP ?_
    | with_reducible refine ifN ?_) <;> (try dsimp only))
  all_goals first
    | (have _ := hP; (refine ⟨i + 1, [], ⟨hlt, by simp_all⟩, by omega, ?_, rfl, ?_, ?_⟩; (focus (exact wkN)); (focus (exact fitsA)); (focus (exact fits_row (clo_rows_b rfl)))))
    | (have _ := hP; exact Fin.one rfl (RV.tmp (by rfl)) (clo_c _) ⟨by have hn := covTo_not (n := s.size) (by simp_all : covAt s i = false) hlt; simp_all [isCover], rfl⟩)
    | (have _ := hQ; exact Fin.one rfl (RV.tmp (by rfl)) (clo_c _) ⟨by simp_all [isCover], rfl⟩)
    | (exact Fin.one rfl (RV.tmp (by rfl)) (clo_c _) ⟨by simp only [isCover]; revert h; cases inr w 1 6 <;> cases inr g 1 6 <;> simp <;> simp_all, rfl⟩)

theorem isCover_s_t (w g : Int) (s : ByteArray) (hs : s.size ≤ 9223372036854775807) (hc : isCover w g s = true) : VCalls Tryd.prog 29 [.agg [I w, I g, S s]] (fun r M => r = B true ∧ M = []) := hc ▸ isCover_s w g s hs
theorem isCover_s_f (w g : Int) (s : ByteArray) (hs : s.size ≤ 9223372036854775807) (hc : isCover w g s = false) : VCalls Tryd.prog 29 [.agg [I w, I g, S s]] (fun r M => r = B false ∧ M = []) := hc ▸ isCover_s w g s hs
theorem isCover_i (w g : Int) (s : ByteArray) (hs : s.size ≤ 9223372036854775807) : VCalls Tryd.prog 49 [.agg [I w, I g, S s]] (fun r M => r = B (isCover w g s) ∧ M = []) := by
  refine VB Tryd.func49 43 (fun E hE => ?_)
  repeat' ((first
    | (refine iAL ?_; first | refine AL.any ?_ | refine AL.any (h := POp.k Tryd.func59 (hc := inr_v _ _ _)) ?_ | refine AL.U ?_ | refine AL.F ?_ | refine AL.T ?_ | refine AL.T (h := POp.k Tryd.func59 (hc := inr_v _ _ _)) ?_ | refine AL.W ?_ | refine AL.W (h := fun h => by (try rw [h]); exact POp.k Tryd.func59 (hc := inr_v _ _ _)) ?_ | refine AL.nil ?_)
    | (refine iAW ?_; first | (refine AW.c0 ?_; constructor) | refine AW.cT ?_ | refine AW.cF ?_ | (refine AW.c2 ?_ ?_ <;> (intro h; try simp only [bT, bF] at h)))
    | (refine AW.loopD hE (fun i : Nat => [.agg [I w, I g, S s], .ref 0 0 3 0 0, .any, .any, .any, .any, .any, .any, .any, .any, .any, .any, .any, .any, .any, .any, .any, .any, .any, .any, .any, .any, .any, .any, .any, .any, .any, I s.size, I i, .any, .any, .any, .any, .any, .any, .any, .any, .any, .any, .any, .any, .any, .any, .any]) (fun i => [some ⟨34, 3, 0, true, [[I w, I g, S s]]⟩]) (fun i => s.size - i) (fun i => i ≤ s.size ∧ covTo s i = true) 0 ⟨Nat.zero_le _, by simp [covTo]⟩ ?_ (by first | rfl | (simp [fil_zero]; done)) ?_
       (focus (exact wkI))
       intro i hi
       by_cases hlt : i < s.size
       case' pos =>
         have hP := True.intro
         obtain ⟨b, hb, hb'⟩ := str_get hlt
         have ht := str_lt hlt
         have hn := next_ix hlt (by omega)
         have hc := covAt_some hb
         have hsu := covTo_succ s i
       case' neg =>
         have hQ := True.intro
         have e : i = s.size := by omega
         have ht := str_ge hlt
         subst e)
    | with_reducible refine ifP ?_
    | with_reducible refine ifN ?_) <;> (try dsimp only))
  all_goals first
    | (have _ := hP; (refine ⟨i + 1, [], ⟨hlt, by simp_all⟩, by omega, ?_, rfl, ?_, ?_⟩; (focus (exact wkN)); (focus (exact fitsA)); (focus (exact fits_row (clo_rows_b rfl)))))
    | (have _ := hP; exact Fin.one rfl (RV.tmp (by rfl)) (clo_c _) ⟨by have hn := covTo_not (n := s.size) (by simp_all : covAt s i = false) hlt; simp_all [isCover], rfl⟩)
    | (have _ := hQ; exact Fin.one rfl (RV.tmp (by rfl)) (clo_c _) ⟨by simp_all [isCover], rfl⟩)
    | (exact Fin.one rfl (RV.tmp (by rfl)) (clo_c _) ⟨by simp only [isCover]; revert h; cases inr w 1 6 <;> cases inr g 1 6 <;> simp <;> simp_all, rfl⟩)

theorem isCover_i_t (w g : Int) (s : ByteArray) (hs : s.size ≤ 9223372036854775807) (hc : isCover w g s = true) : VCalls Tryd.prog 49 [.agg [I w, I g, S s]] (fun r M => r = B true ∧ M = []) := hc ▸ isCover_i w g s hs
theorem isCover_i_f (w g : Int) (s : ByteArray) (hs : s.size ≤ 9223372036854775807) (hc : isCover w g s = false) : VCalls Tryd.prog 49 [.agg [I w, I g, S s]] (fun r M => r = B false ∧ M = []) := hc ▸ isCover_i w g s hs
end Go.Proofs.YtljdhhkebebhfaaDoor.Abs

/- Regions of a cover: the plain law. -/
namespace Go.Proofs.YtljdhhkebebhfaaDoor.Abs
open Go.Proofs Go.RowKit
set_option linter.unusedVariables false
set_option linter.unusedSimpArgs false
set_option maxRecDepth 100000
set_option maxHeartbeats 2000000
attribute [local irreducible] OpA AL AW DL DLM DLR DLS QOp POp VCalls VCallsI
def nxt (W i k : Nat) : Bool := max i k == min i k + W || (max i k == min i k + 1 && max i k % W != 0)
theorem nxt_comm (W i k : Nat) : nxt W i k = nxt W k i := by unfold nxt; rw [Nat.max_comm, Nat.min_comm]
def edg (W : Nat) (s : ByteArray) (i k : Nat) : Bool := nxt W i k && (s[i]? == s[k]?)
theorem edg_comm (W : Nat) (s : ByteArray) (i k : Nat) : edg W s i k = edg W s k i := by unfold edg; rw [nxt_comm, Bool.beq_comm (a := s[i]?)]
inductive Rch (W : Nat) (s : ByteArray) : Nat → Nat → Prop
  | refl (i : Nat) : Rch W s i i
  | step {i j k : Nat} (h : Rch W s i j) (e : edg W s j k = true) (hk : k < s.size) (hj : j < s.size) : Rch W s i k
theorem Rch.trans {W : Nat} {s : ByteArray} {i j k : Nat} (h : Rch W s i j) (g : Rch W s j k) : Rch W s i k := by
  induction g with
  | refl => exact h
  | step _ e hk hj ih => exact .step ih e hk hj
theorem Rch.symm {W : Nat} {s : ByteArray} {i j : Nat} (h : Rch W s i j) : Rch W s j i := by
  induction h with
  | refl => exact .refl _
  | step _ e hk hj ih => exact (Rch.step (.refl _) (by rw [edg_comm]; exact e) hj hk).trans ih
structure Num (W : Nat) (s : ByteArray) (n : Nat → Nat) : Prop where
  le : ∀ i, i < s.size → n i ≤ i
  rch : ∀ i, i < s.size → Rch W s i (n i)
  eq : ∀ i k, i < s.size → k < s.size → edg W s i k = true → n i = n k
theorem Num.along {W : Nat} {s : ByteArray} {n : Nat → Nat} (h : Num W s n) {i j : Nat} (g : Rch W s i j) : n i = n j := by
  induction g with
  | refl => rfl
  | step _ e hk hj ih => exact ih.trans (h.eq _ _ hj hk e)
theorem Num.self {W : Nat} {s : ByteArray} {n : Nat → Nat} (h : Num W s n) {i : Nat} (hi : i < s.size) : n (n i) = n i := (h.along (h.rch i hi)).symm
theorem Num.uniq {W : Nat} {s : ByteArray} {n n' : Nat → Nat} (h : Num W s n) (h' : Num W s n') {i : Nat} (hi : i < s.size) : n i = n' i := by
  have key : ∀ {n n' : Nat → Nat}, Num W s n → Num W s n' → n' i ≤ n i := fun {n n'} h h' => by
    have h1 := h'.along (h.rch i hi)
    have h2 := h'.le (n i) (Nat.lt_of_le_of_lt (h.le i hi) hi)
    omega
  have a := key h h'
  have b := key h' h
  omega
def heads (n : Nat → Nat) (k : Nat) : List Nat := (List.range k).filter fun v => n v == v
theorem heads_succ (n : Nat → Nat) (k : Nat) : heads n (k + 1) = heads n k ++ if n k = k then [k] else [] := by
  unfold heads
  rw [List.range_succ, List.filter_append]
  by_cases h : n k = k <;> simp [h]
theorem heads_lt {n : Nat → Nat} {k v : Nat} (h : v ∈ heads n k) : v < k ∧ n v = v := by
  unfold heads at h
  rw [List.mem_filter] at h
  exact ⟨List.mem_range.1 h.1, by simpa using h.2⟩
theorem heads_len (n : Nat → Nat) (k : Nat) : (heads n k).length ≤ k := by
  unfold heads
  exact Nat.le_trans (List.length_filter_le _ _) (by simp)
theorem nx_le {W i k : Nat} (h : ¬ (k < i)) (hk : k < 36) (hW : 1 ≤ W ∧ W ≤ 6) : ((((k : Nat) : Int) == IntKind.i64.wrap ((i : Int) + (W : Int))) || ((((k : Nat) : Int) == IntKind.i64.wrap ((i : Int) + 1)) && (Int.tmod ((k : Nat) : Int) (W : Int) != 0))) = nxt W i k := by
  have e1 : IntKind.i64.wrap ((i : Int) + (W : Int)) = ((i + W : Nat) : Int) := by rw [w64 (by omega) (by omega)]; omega
  have e2 : IntKind.i64.wrap ((i : Int) + 1) = ((i + 1 : Nat) : Int) := by rw [w64 (by omega) (by omega)]; omega
  have e3 : Int.tmod ((k : Nat) : Int) (W : Int) = ((k % W : Nat) : Int) := by rw [Int.tmod_eq_emod_of_nonneg (by omega)]; exact (Int.natCast_emod k W).symm
  have c : ∀ a b : Nat, (((a : Nat) : Int) == ((b : Nat) : Int)) = (a == b) := fun a b => by
    rw [Bool.eq_iff_iff, beq_iff_eq, beq_iff_eq]
    omega
  have c0 : ∀ a : Nat, (((a : Nat) : Int) != 0) = (a != 0) := fun a => by
    have := c a 0
    simp only [bne]
    rw [← this]
    rfl
  unfold nxt
  rw [e1, e2, e3, c, c, c0, Nat.max_eq_right (by omega), Nat.min_eq_left (by omega)]

abbrev enI (n : Int) : List AV := [I n]
def bes (W G i : Nat) : List Int := (bif decide (((i : Nat) : Int) ≥ (W : Int)) then [IntKind.i64.wrap (((i : Nat) : Int) - (W : Int))] else []) ++ (bif decide (Int.tmod ((i : Nat) : Int) (W : Int) > 0) then [IntKind.i64.wrap (((i : Nat) : Int) - 1)] else []) ++
  (bif decide (Int.tmod ((i : Nat) : Int) (W : Int) < IntKind.i64.wrap ((W : Int) - 1)) then [IntKind.i64.wrap (((i : Nat) : Int) + 1)] else []) ++ (bif decide (IntKind.i64.wrap (((i : Nat) : Int) + (W : Int)) < IntKind.i64.wrap ((W : Int) * (G : Int))) then [IntKind.i64.wrap (((i : Nat) : Int) + (W : Int))] else [])
theorem bes_i (W G : Nat) (s : ByteArray) (hW : 1 ≤ W ∧ W ≤ 6) (hG : 1 ≤ G ∧ G ≤ 6) (hs : s.size = W * G) (i : Nat) (hi : i < 36) : VCalls Tryd.prog 50 [.agg [I (W : Int), I (G : Int), S s], I (i : Int)] (fun r M => r = .own 0 0 ∧ M = [some ⟨3, 1, 0, false, (bes W G i).map enI⟩]) := by
  refine VB Tryd.func50 57 (fun E hE => ?_)
  have hW0 : (W : Int) ≠ 0 := by omega
  rcases Bool.eq_false_or_eq_true (decide (((i : Nat) : Int) ≥ (W : Int))) with h1 | h1
  all_goals rcases Bool.eq_false_or_eq_true (decide (Int.tmod ((i : Nat) : Int) (W : Int) > 0)) with h2 | h2
  all_goals rcases Bool.eq_false_or_eq_true (decide (Int.tmod ((i : Nat) : Int) (W : Int) < IntKind.i64.wrap ((W : Int) - 1))) with h3 | h3
  all_goals rcases Bool.eq_false_or_eq_true (decide (IntKind.i64.wrap (((i : Nat) : Int) + (W : Int)) < IntKind.i64.wrap ((W : Int) * (G : Int)))) with h4 | h4
  repeat' ((first
    | (refine iAL ?_; first | refine AL.any ?_ | refine AL.nil ?_)
    | ((with_reducible show DL ..); first | refine DL.any ?_ | refine DL.nil ?_)
    | (refine iAW ?_; first | (refine AW.c0 ?_; constructor) | refine AW.dr (id := 6) 7 ?_ | refine AW.cT ?_ | refine AW.cF ?_ | (refine AW.c2 ?_ ?_ <;> (intro h; try simp only [bT, bF] at h)))) <;> (try dsimp only))
  all_goals exact Fin.r1 [1] rfl (RV.tmp (by rfl)) ⟨rfl, by unfold bes; rw [h1, h2, h3, h4]; rfl⟩

theorem bes_i' (W G : Nat) (s : ByteArray) (hW : 1 ≤ W ∧ W ≤ 6) (hG : 1 ≤ G ∧ G ≤ 6) (hs : s.size = W * G) (i : Nat) (hi : i < 36) : VCalls Tryd.prog 50 [.agg [I (W : Int), I (G : Int), S s], I (i : Int)] (fun r M => r = .ro 1 ((bes W G i).map enI) ∧ M = []) := VCalls.frz (bes_i W G s hW hG hs i hi) vwlT
end Go.Proofs.YtljdhhkebebhfaaDoor.Abs

/- Pieces of lists that stay; a row of ours cut short. -/
namespace Go.Proofs.YtljdhhkebebhfaaDoor.Abs
open Go.Proofs Go.RowKit
set_option linter.unusedVariables false
set_option linter.unusedSimpArgs false
set_option maxRecDepth 100000
set_option maxHeartbeats 2000000
section
variable {P : Program} {o : Oper} {tm : List AV} {M : Mem}
theorem elem_of {t e : TypeId} (h : P.underlying t = some (.slice e)) : P.elem t = e := by simp [Program.elem, h]
theorem Addr.add_block (a : Addr) (n : Nat) : (a.add n).block = a.block := by unfold Addr.add; split <;> rfl
theorem QOp.cut_l {x y : Operand} {t e : TypeId} {sz : Nat} {es : List (List AV)} {k : IntKind} {n : Int} {es2 : List (List AV)} (ho : o.op = .slice t x (some y) none none) (ht : slk P t = some (e, sz)) (hx : evA tm x = some (.ro sz es)) (hy : sc tm y = some (.int k n)) (h0 : 0 ≤ n) (h1 : n ≤ (es.length : Int)) (he : es.drop n.toNat = es2) :
    QOp P o tm M (.ro sz es2) := he ▸ fun base w0 a w Fx β hh hs => by
  have hrep := hs.ev hx
  generalize hu : a.eval x = u at hrep
  cases hrep with
  | @ro _ _ A cap f hc hm hA hl h1c h =>
    have hun := (slk_inv ht).1
    obtain ⟨i0, hi0, hs0⟩ := info_size (slk_inv ht).2
    have hun2 : P.underlying t = some (.slice (P.elem t)) := by rw [elem_of hun]; exact hun
    refine ⟨sliced A n.toNat es.length cap sz, fun w' _ => ?_, ?_⟩
    · simp [execOp, ho, hu, hs.sc hy, run_sliceAt_slice w' t _ _ _ _ hun2, run_slice_l w' t A es.length cap hun2 k n h0 h1, elem_of hun, sizeOf, typeInfo, hi0, hs0, Result.andThen]
    · have e1 : es.length - n.toNat = (es.drop n.toNat).length := by simp
      unfold sliced
      rw [e1]
      refine .ro (fun i j => f (i + n.toNat) j) (by rw [← e1]; omega) (by rw [← e1]; omega) (fun hp => ?_) (fun i r hr => hl (i + n.toNat) r (by rw [List.getElem?_drop] at hr; rw [Nat.add_comm]; exact hr)) (fun i j => h1c _ _) (fun i r j z hr hz => h (i + n.toNat) r j z (by rw [List.getElem?_drop] at hr; rw [Nat.add_comm]; exact hr) hz)
      have hlt : n.toNat < es.length := by rw [← e1] at hp; omega
      obtain ⟨ad, rfl, hF, hcell⟩ := hA (by omega)
      rw [if_neg (by omega)]
      refine ⟨ad.add (n.toNat * sz), rfl, by rw [Addr.add_block]; exact hF, fun i r j hr hj => ?_⟩
      rw [Addr.add_add, show n.toNat * sz + (i * sz + j) = (i + n.toNat) * sz + j by rw [Nat.add_mul]; omega]
      exact hcell (i + n.toNat) r j (by rw [List.getElem?_drop] at hr; rw [Nat.add_comm]; exact hr) hj
theorem QOp.cut_h {x y : Operand} {t e : TypeId} {sz : Nat} {es : List (List AV)} {k : IntKind} {n : Int} {es2 : List (List AV)} (ho : o.op = .slice t x none (some y) none) (ht : slk P t = some (e, sz)) (hx : evA tm x = some (.ro sz es)) (hy : sc tm y = some (.int k n)) (h0 : 0 ≤ n) (h1 : n ≤ (es.length : Int)) (he : es.take n.toNat = es2) :
    QOp P o tm M (.ro sz es2) := he ▸ fun base w0 a w Fx β hh hs => by
  have hrep := hs.ev hx
  generalize hu : a.eval x = u at hrep
  cases hrep with
  | @ro _ _ A cap f hc hm hA hl h1c h =>
    have hun := (slk_inv ht).1
    obtain ⟨i0, hi0, hs0⟩ := info_size (slk_inv ht).2
    have hun2 : P.underlying t = some (.slice (P.elem t)) := by rw [elem_of hun]; exact hun
    refine ⟨sliced A 0 n.toNat cap sz, fun w' _ => ?_, ?_⟩
    · simp [execOp, ho, hu, hs.sc hy, run_sliceAt_slice w' t _ _ _ _ hun2, run_slice_h w' t A es.length cap hun2 k n h0 (by omega), elem_of hun, sizeOf, typeInfo, hi0, hs0, Result.andThen]
    · have e1 : n.toNat - 0 = (es.take n.toNat).length := by simp; omega
      have tk : ∀ {i : Nat} {r : List AV}, (es.take n.toNat)[i]? = some r → es[i]? = some r := fun {i r} hr => by
        rw [List.getElem?_take] at hr
        split at hr
        · exact hr
        · cases hr
      unfold sliced
      rw [e1, Nat.sub_zero]
      refine .ro f (by rw [← e1]; omega) (by rw [← e1]; omega) (fun hp => ?_) (fun i r hr => hl i r (tk hr)) h1c (fun i r j z hr hz => h i r j z (tk hr) hz)
      have hlt : 0 < es.length := by rw [← e1] at hp; omega
      obtain ⟨ad, rfl, hF, hcell⟩ := hA hlt
      refine ⟨ad, ?_, hF, fun i r j hr hj => hcell i r j (tk hr) hj⟩
      split
      · rfl
      · simp [Addr.add]
end

section
variable {P : Program} {E : Env} {tm : List AV} {M : Mem} {o : Oper} {w : World} {Fx : Nat → Prop} {β : List Hd} {G : List (Option Nat)}
theorem CellsD.take {pv : Nat → Prop} {hb : Option Nat} {sz : Nat} {es : List (List AV)} {xs : List Value} (h : CellsD w Fx β G pv hb sz es xs) (k : Nat) : CellsD w Fx β G pv hb sz (es.take k) (xs.take (k * sz)) := by
  have hl := h.len
  obtain ⟨h1, h2, pc, h3, h4, h5⟩ := h
  have tk : ∀ {i : Nat} {r : List AV}, (es.take k)[i]? = some r → i < k ∧ es[i]? = some r := fun {i r} hr => by
    rw [List.getElem?_take] at hr
    split at hr
    · exact ⟨by assumption, hr⟩
    · cases hr
  have tx : ∀ {i j : Nat}, i < k → j < sz → (xs.take (k * sz))[i * sz + j]? = xs[i * sz + j]? := fun {i j} hi hj => by
    have : (i + 1) * sz ≤ k * sz := Nat.mul_le_mul_right _ hi
    rw [List.getElem?_take, if_pos (by rw [Nat.add_mul] at this; omega)]
  refine ⟨?_, fun i r hr => ⟨(h2 i r (tk hr).2).1, fun j x hx => ?_⟩, pc, h3, h4, fun i r j d hr hx => ?_⟩
  · rw [List.length_take, List.length_take, hl]
    rcases Nat.le_total k es.length with h | h
    · rw [Nat.min_eq_left h, Nat.min_eq_left (Nat.mul_le_mul_right _ h)]
    · rw [Nat.min_eq_right h, Nat.min_eq_right (Nat.mul_le_mul_right _ h)]
  · obtain ⟨u, hu, ho, hR⟩ := (h2 i r (tk hr).2).2 j x hx
    exact ⟨u, by rw [tx (tk hr).1 (by rw [← (h2 i r (tk hr).2).1]; exact (List.getElem?_eq_some_iff.1 hx).1)]; exact hu, ho, hR⟩
  · obtain ⟨u, hu, hR⟩ := h5 i r j d (tk hr).2 hx
    exact ⟨u, by rw [tx (tk hr).1 (by rw [← (h2 i r (tk hr).2).1]; exact (List.getElem?_eq_some_iff.1 hx).1)]; exact hu, hR⟩
theorem POp.shrink {x y : Operand} {t e : TypeId} {sz id g : Nat} {ky : IntKind} {n : Int} {b : Blk} (ho : o.op = .slice t x none (some y) none) (ht : slk P t = some (e, sz)) (hx : evA tm x = some (.own id g)) (hM : M[id]? = some (some b)) (hg : b.gen = g) (hb : b.box = false) (hbs : b.sz = sz) (hy : sc tm y = some (.int ky n)) (h0 : 0 ≤ n) (h1 : n.toNat ≤ b.es.length) :
    POp P o E tm M (.own id (g + 1)) (M.set id (some { b with es := b.es.take n.toNat, gen := b.gen + 1 })) := by
  intro a w K Q Fx β hh hsl hk
  have hrs := hsl.ev hx
  generalize hv0 : a.eval x = v at hrs
  obtain ⟨hd, hvv, hdv⟩ : ∃ hd, β[id]? = some hd ∧ hd.v = v := by
    cases hrs with
    | own _ _ _ h => exact h (by rw [← hg]; exact gens_of hM)
  obtain ⟨v2, hv2, hok⟩ := hh.blk id b hM
  rw [hvv] at hv2
  obtain rfl := Option.some.inj hv2
  obtain ⟨_, hok2⟩ := hok
  rw [hb] at hok2
  obtain ⟨xs, hown, hc⟩ := hok2
  rw [← hdv] at hv0
  clear hrs hdv v
  obtain ⟨v, pv⟩ := hd
  dsimp only at hv0 hown hc
  have hun := (slk_inv ht).1
  obtain ⟨i0, hi0, hs0⟩ := info_size (slk_inv ht).2
  have hun2 : P.underlying t = some (.slice (P.elem t)) := by rw [elem_of hun]; exact hun
  have hidl : id < M.length := (List.getElem?_eq_some_iff.1 hM).1
  have hl2 : (b.es.take n.toNat).length = n.toNat := by rw [List.length_take]; omega
  have fin : ∀ v', (∀ A cap, v = .slice A b.es.length cap → b.es.length ≤ cap → sliced A 0 n.toNat cap sz = v') → (∃ A cap, v = .slice A b.es.length cap ∧ b.es.length ≤ cap) → w.ownsRow E.base b.ty b.sz v' n.toNat (xs.take (n.toNat * b.sz)) → (blockOf v' = blockOf v) → o.wp P a w K Q := by
    intro v' hv' hsh ho' hbl
    obtain ⟨A, cap, rfl, hcap⟩ := hsh
    have hrun : (execOp a.eval o).run P w = .ok (.value v') w := by
      rw [← hv' A cap rfl hcap]
      simp [execOp, ho, hv0, hsl.sc hy, run_sliceAt_slice w t _ _ _ _ hun2, run_slice_h w t A b.es.length cap hun2 ky n h0 (by omega), elem_of hun, sizeOf, typeInfo, hi0, hs0, Result.andThen]
    obtain ⟨hh', hx'⟩ := hh.regrow hM hb hvv (w' := w) ⟨rfl, rfl, rfl, Nat.le_refl _, fun _ _ _ => rfl⟩ (es := b.es.take n.toNat) (by rw [hl2]; exact ho') (fun k hk => .inl (hbl ▸ hk)) (by exact hc.take n.toNat)
    unfold Oper.wp
    rw [hrun, Oper.upon_value]
    refine hk _ _ _ _ hh' hx' (.own ?_ (by simp [gens, hidl]) (fun g1 hg1 => ?_) (fun _ => ?_))
    · rcases ho'.2 with ⟨rfl, _⟩ | ⟨g', cap, cur, rfl, _⟩ <;> rfl
    · have := gens_of (M := M.set id (some { b with es := b.es.take n.toNat, gen := b.gen + 1 })) (id := id) (b := { b with es := b.es.take n.toNat, gen := b.gen + 1 }) (by rw [List.getElem?_set, if_pos rfl, if_pos hidl])
      rw [this] at hg1
      simp at hg1
      omega
    · exact ⟨_, by rw [List.getElem?_set, if_pos rfl, if_pos (by rw [hh.len]; exact hidl)], rfl⟩
  rcases hown.2 with ⟨rfl, hn⟩ | ⟨gg, cap, cur, rfl, hbg, hgg, hnc, hcm, hcs, hxs⟩
  · have e0 : n.toNat = 0 := by omega
    have e1 : xs = [] := List.eq_nil_of_length_eq_zero (by rw [hown.1, hn, Nat.zero_mul])
    refine fin (.slice none 0 0) (fun A cap h _ => ?_) ⟨none, 0, by rw [hn], by omega⟩ (by rw [e0, e1, List.take_nil]; exact World.ownsRow_nil w _ _ _) rfl
    obtain ⟨rfl, _, rfl⟩ := Value.slice.inj h
    simp [sliced, e0]
  · refine fin (.slice (some ⟨gg, 0, none⟩) n.toNat cap) (fun A c h _ => ?_) ⟨_, cap, rfl, hnc⟩ ⟨?_, .inr ⟨gg, cap, cur, rfl, hbg, hgg, by omega, hcm, hcs, ?_⟩⟩ rfl
    · obtain ⟨rfl, _, rfl⟩ := Value.slice.inj h
      simp [sliced, Addr.add]
    · rw [List.length_take, hown.1, Nat.min_eq_left (Nat.mul_le_mul_right _ h1)]
    · rw [← hxs, List.take_take, Nat.min_eq_left (Nat.mul_le_mul_right _ h1)]
end

section
variable {P : Program} {E : Env} {tm : List AV} {M : Mem} {o : Oper}
theorem POp.lit0 {t : TypeId} {sz : Nat} {es : List (List AV)} (h : RowRun P o E tm M t sz es) (hc : ∀ r ∈ es, ∀ x ∈ r, Clo x) : POp P o E tm M (.ro sz es) M := by
  intro a w K Q Fx β hh hsl hk
  obtain ⟨v, w', xs, hrun, hg, hown, hfr, hcell⟩ := h a w Fx β hh hsl
  obtain ⟨h1, hx⟩ := hh.addRow hg hown hfr hcell
  have hM : (M ++ [some ⟨t, sz, 0, false, es⟩])[M.length]? = some (some ⟨t, sz, 0, false, es⟩) := by simp
  have hv : (β ++ [Hd.flat v])[M.length]? = some (Hd.flat v) := by rw [← hh.len]; simp
  obtain ⟨h2, m2, hrep⟩ := h1.freeze hM hv rfl hc
  obtain ⟨h3, m3⟩ := hh.step (w' := w') ⟨hg.os, hg.tape, hg.output, hg.size, fun k hk => hg.block k hk (by simp)⟩
  have hF : ∀ k, (Hd.flat v).has k → w.heap.size ≤ k := fun k hk => by
    rcases hk with hk | hk
    · exact hfr k hk
    · exact hk.elim
  have m4 : Mv w' Fx β (gens M) w' (fun k => Fx k ∨ (Hd.flat v).has k) β (gens M) := ⟨fun k h => .inl h, fun _ _ => rfl, Nat.le_refl _, fun id g' _ h => ⟨g', h, Nat.le_refl _, fun _ => rfl⟩⟩
  have h4 : HS E.base E.w0 w' (fun k => Fx k ∨ (Hd.flat v).has k) β M := by
    refine ⟨h3.bel, h3.bs, h2.fx, h3.len, fun id b hb => ?_, h3.inj⟩
    obtain ⟨u, hu, hk'⟩ := h3.blk id b hb
    refine ⟨u, hu, hk'.mv m4 (Nat.le_refl _) (fun _ _ => rfl) (fun k hk2 hF2 => ?_)⟩
    rcases hF2 with hF2 | hF2
    · exact (hk'.1 k hk2).2.2 hF2
    · obtain ⟨u0, hu0, hk0⟩ := hh.blk id b hb
      rw [hu] at hu0
      obtain rfl := Option.some.inj hu0
      have := (hk0.1 k hk2).2.1
      have := hF k hF2
      omega
  unfold Oper.wp
  rw [hrun, Oper.upon_value]
  refine hk _ _ _ _ h4 ⟨m3.trans m4, hg.size, fun k hk => ?_, fun id b u k g1 g2 g3 => .inr ⟨id, b, u, g1, g2, g3⟩⟩ ((Clo.ro hc _ _ _ _ _ hrep.cr).of_clo)
  rcases hk with hk | hk
  · exact .inl hk
  · exact .inr (.inl (hF k hk))
end

end Go.Proofs.YtljdhhkebebhfaaDoor.Abs

/- The walk of a number put into a list in its order. -/
namespace Go.Proofs.YtljdhhkebebhfaaDoor.Abs
open Go.Proofs Go.RowKit
set_option linter.unusedVariables false
set_option linter.unusedSimpArgs false
set_option maxRecDepth 100000
set_option maxHeartbeats 2000000
attribute [local irreducible] OpA AL AW DL DLM DLR DLS QOp POp VCalls VCallsI
def posI (l : List Int) (x : Int) : Nat := (l.takeWhile fun y => decide (y < x)).length
theorem posI_le : ∀ (l : List Int) (x : Int), posI l x ≤ l.length
  | [], _ => Nat.le_refl _
  | y :: l, x => by
    unfold posI
    rw [List.takeWhile_cons]
    split
    · have := posI_le l x
      unfold posI at this
      simp only [List.length_cons]
      omega
    · exact Nat.zero_le _
theorem posI_lt : ∀ {l : List Int} {x : Int} {i : Nat}, i < posI l x → ∃ y, l[i]? = some y ∧ decide (y < x) = true
  | [], x, i, h => by simp [posI] at h
  | y :: l, x, i, h => by
    unfold posI at h
    rw [List.takeWhile_cons] at h
    split at h
    · rename_i hy
      cases i with
      | zero => exact ⟨y, rfl, hy⟩
      | succ i =>
        simp only [List.length_cons] at h
        exact posI_lt (l := l) (x := x) (i := i) (by unfold posI; omega)
    · simp at h
theorem posI_at : ∀ {l : List Int} {x y : Int}, l[posI l x]? = some y → decide (y < x) = false
  | [], x, y, h => by simp at h
  | z :: l, x, y, h => by
    unfold posI at h
    rw [List.takeWhile_cons] at h
    split at h
    · simp only [List.length_cons, List.getElem?_cons_succ] at h
      exact posI_at (l := l) (x := x) h
    · rename_i hz
      simp only [List.length_nil, List.getElem?_cons_zero, Option.some.injEq] at h
      subst h
      simpa using hz
def putI (l : List Int) (x : Int) : List Int := if l[posI l x]? = some x then l else l.take (posI l x) ++ [x] ++ l.drop (posI l x)
theorem putI_y {l : List Int} {x y : Int} (h : l[posI l x]? = some y) (e : (y == x) = true) : putI l x = l := by
  unfold putI
  rw [if_pos (by rw [h]; simpa using e)]
theorem putI_n {l : List Int} {x y : Int} (h : l[posI l x]? = some y) (e : (y == x) = false) : putI l x = l.take (posI l x) ++ [x] ++ l.drop (posI l x) := by
  unfold putI
  rw [if_neg (by rw [h]; simpa using e)]
theorem putI_end {l : List Int} {x : Int} (h : posI l x = l.length) : putI l x = l.take l.length ++ [x] ++ l.drop l.length := by
  unfold putI
  rw [h, if_neg (by rw [List.getElem?_eq_none (Nat.le_refl _)]; simp)]
theorem posI_all : ∀ {l : List Int} {x : Int}, (∀ y ∈ l, y < x) → posI l x = l.length
  | [], _, _ => rfl
  | y :: l, x, h => by
    have ih := posI_all (l := l) (x := x) fun z hz => h z (List.mem_cons_of_mem _ hz)
    unfold posI at ih ⊢
    rw [List.takeWhile_cons, if_pos (by simpa using h y (List.mem_cons_self ..))]
    simp [ih]

theorem put14_s (l : List Int) (x : Int) (hl : l.length ≤ 1048576) : VCalls Tryd.prog 31 [.ro 1 (l.map enI), I x] (fun r M => r = .own 0 0 ∧ M = [some ⟨3, 1, 0, false, (putI l x).map enI⟩]) := by
  refine VB Tryd.func31 45 (fun E hE => ?_)
  have hclo : Clo (.ro 1 (l.map enI)) := clo_list (fun n => clo_cons (clo_c _) clo_nil)
  repeat' ((first
    | (refine iAL ?_; first | refine AL.any ?_ | refine AL.U ?_ | refine AL.F ?_ | refine AL.T ?_ | refine AL.W ?_ | refine AL.nil ?_)
    | ((with_reducible show DL ..); first | refine DL.any ?_ | refine DL.nil ?_)
    | ((with_reducible show DLR ..); first | refine DLR.any ?_ | refine DLR.alloc rfl rfl (by first | exact ze2 | exact ze3 | exact ze4 | exact ze5 | exact ze6 | exact ze8 | exact ze9 | exact ze10 | exact ze11 | exact ze12 | exact ze13 | exact ze14 | exact ze15 | exact ze16 | exact ze17 | exact ze18 | exact ze19 | exact ze22 | exact ze23 | exact ze24 | exact ze25 | exact ze26 | exact ze27 | exact ze28 | exact ze31 | exact ze32 | exact ze33 | exact ze34 | exact ze36 | exact ze45 | exact ze60 | exact ze64 | exact ze79) rfl rfl ?_ | refine DLR.box rfl rfl (by rfl) (by rfl) rfl rfl ?_ | refine DLR.store rfl rfl (by rfl) rfl rfl rfl rfl rfl (by rfl) (by rfl) (TT_ok.ld _ _ (by rfl)) (by rfl) (by rfl) rfl ?_ | refine DLR.row rfl (fun Y => RowRun.empty (by rfl) (by rfl) (by first | exact rwk22 | exact rwk23 | exact rwk24 | exact rwk31 | exact rwk32 | exact rwk33 | exact rwk45)) rfl rfl ?_ | refine DLR.row rfl (fun Y => RowRun.literal (by rfl) (by first | exact rwk22 | exact rwk23 | exact rwk24 | exact rwk31 | exact rwk32 | exact rwk33 | exact rwk45) (by rfl) (by rfl) (by rfl) (by rfl) (by rfl) (by rfl)) rfl rfl ?_ | refine DLR.append rfl (by rfl) (by first | exact rwk22 | exact rwk23 | exact rwk24 | exact rwk31 | exact rwk32 | exact rwk33 | exact rwk45) (by rfl) rfl rfl rfl rfl rfl rfl (by rfl) (by first | (simp <;> omega) | omega) (by first | (simp [maxLen] <;> omega) | (simp_all [maxLen] <;> omega)) ?_ | refine DLR.nil ?_)
    | (refine iAW ?_; first | (refine AW.c0 ?_; constructor) | refine AW.drawnR (id := 6) 11 1 [some 0, none, none, none, some 0, none, none, some 0, none, none, none] [some Rsv] rfl (by kernel_rfl) (by kernel_rfl) (by kernel_rfl) (by rfl) ?_ | refine AW.cT ?_ | refine AW.cF ?_ | (refine AW.c2 ?_ ?_ <;> (intro h; try simp only [bT, bF] at h)))
    | ((with_reducible show DLR ..); first | refine DLR.any (h := fun Y => POp.quiet (QOp.cut_h (by rfl) slk45 (by rfl) (by rfl) (by first | decide | omega) (by first | assumption | omega) (by assumption))) ?_ | refine DLR.any (h := fun Y => POp.quiet (QOp.cut_l (by rfl) slk45 (by rfl) (by rfl) (by first | decide | omega) (by first | assumption | omega) (by assumption))) ?_ | refine DLR.any (h := fun Y => POp.lit0 (RowRun.literal (by rfl) rwk45 (by rfl) (by rfl) (by rfl) (by rfl) (by rfl) (by rfl)) (clo_rows_b rfl)) ?_)
    | (refine AW.loopD hE (fun i : Nat => [.ro 1 (l.map enI), I x, .any, .any, .any, I (i : Int), .any, .any, .any, .any, .any, .any, .any, .any, .any, .any, .any, .any, .any, .any, .any, .any, .any, .any, .any, .any, .any, .any, .any, .any, .any, .any, .any, .any, .any, .any, .any, .any, .any, .any, .any, .any, .any, .any, .any, .any, .any]) (fun i => []) (fun i => (posI l x) - i) (fun i => i ≤ posI l x) 0 (Nat.zero_le _) ?_ (by first | rfl | (simp [fil_zero]; done)) ?_
       (focus (exact wkI))
       intro i hi
       by_cases hlt : i < (posI l x)
       case' pos =>
         have hP := True.intro
         obtain ⟨y, hy, hyl⟩ := posI_lt hlt
         have hN := (List.getElem?_eq_some_iff.1 hy).1
         have hg := map_get (f := enI) hy
         have ht := lt_true (f := enI) hN
         have hn := next_ix hN (by omega)
       case' neg =>
         have hQ := True.intro
         have e : i = (posI l x) := by omega
         subst e
         have hle := posI_le l x
         obtain ⟨K, hK⟩ : ∃ K, K = posI l x := ⟨_, rfl⟩
         rw [← hK] at hle ⊢
         have hK1 : ((K : Nat) : Int) ≤ ((l.map enI).length : Int) := by rw [List.length_map]; omega
         have hd0 : (l.map enI).drop ((K : Nat) : Int).toNat = (l.drop K).map enI := by rw [Int.toNat_natCast, List.map_drop]
         have ht0 : (l.map enI).take ((K : Nat) : Int).toNat = (l.take K).map enI := by rw [Int.toNat_natCast, List.map_take]
         have hc1 : Clo (.ro 1 ((l.take K).map enI)) := clo_list (fun n => clo_cons (clo_c _) clo_nil)
         have hc2 : Clo (.ro 1 ((l.drop K).map enI)) := clo_list (fun n => clo_cons (clo_c _) clo_nil)
         have hl1 : (l.take K).length ≤ 1048576 := by rw [List.length_take]; omega
         have hl2 : (l.drop K).length ≤ 1048576 := by rw [List.length_drop]; omega
         have hap : (l.take K ++ [x] ++ l.drop K).map enI = (l.take K).map enI ++ [[I x]] ++ (l.drop K).map enI := by rw [List.map_append, List.map_append]; rfl
         have hdc : DCl ((l.take K).map enI ++ [[I x]] ++ (l.drop K).map enI) := hap ▸ DCl.map (fun _ => rfl)
         rcases Nat.lt_or_ge K l.length with hlt2 | hlt2
         rotate_left 1
         have hpe : putI l x = l.take K ++ [x] ++ l.drop K := by
           have e2 : posI l x = l.length := by omega
           rw [putI_end e2, hK, e2]
         have ht : decide (((K : Nat) : Int) < ((l.map enI).length : Int)) = false := by rw [List.length_map]; simp; omega
         rotate_left 1
         obtain ⟨y, hy⟩ : ∃ y, l[K]? = some y := ⟨_, List.getElem?_eq_getElem hlt2⟩
         have hyl := posI_at (l := l) (x := x) (y := y) (by rw [← hK]; exact hy)
         have hN := (List.getElem?_eq_some_iff.1 hy).1
         have hg := map_get (f := enI) hy
         have ht := lt_true (f := enI) hN
         rcases Bool.eq_false_or_eq_true (y == x) with hyx | hyx
         have hpe : putI l x = l := putI_y (by rw [← hK]; exact hy) hyx
         rotate_left 1
         have hpe : putI l x = l.take K ++ [x] ++ l.drop K := by rw [putI_n (by rw [← hK]; exact hy) hyx, ← hK]
         rotate_left 1)
    | with_reducible refine ifP ?_
    | with_reducible refine ifN ?_) <;> (try dsimp only))
  all_goals first
    | (have _ := hP; (refine ⟨i + 1, _, hlt, by omega, ?_, rfl, ?_, ?_⟩; (focus (exact wkN)); (focus (exact fitsA)); (focus (exact FitsM.nil _))))
    | (have _ := hQ; first | exact Fin.r1 [0] rfl (RV.tmp (by rfl)) ⟨rfl, by rw [hpe, hap] <;> rfl⟩ (hok := ⟨⟨_, rfl, hdc⟩, trivial⟩) | exact Fin.r1 [0] rfl (RV.tmp (by rfl)) ⟨rfl, by rw [hpe] <;> rfl⟩)

def numL (n : Nat → Nat) (k : Nat) : List Int := (List.range k).map fun i => ((n i : Nat) : Int)
def headL (n : Nat → Nat) (k : Nat) : List Int := (heads n k).map fun v => ((v : Nat) : Int)
theorem numL_len (n : Nat → Nat) (k : Nat) : (numL n k).length = k := by simp [numL]
theorem numL_get {n : Nat → Nat} {k i : Nat} (h : i < k) : (numL n k)[i]? = some ((n i : Nat) : Int) := by
  unfold numL
  rw [List.getElem?_map, List.getElem?_range h]
  rfl
theorem headL_len (n : Nat → Nat) (k : Nat) : (headL n k).length ≤ k := by
  unfold headL
  rw [List.length_map]
  exact heads_len n k
theorem headL_y {n : Nat → Nat} {i : Nat} (h : n i = i) : headL n (i + 1) = headL n i ++ [((i : Nat) : Int)] := by
  unfold headL
  rw [heads_succ, if_pos h, List.map_append]
  rfl
theorem headL_n {n : Nat → Nat} {i : Nat} (h : n i ≠ i) : headL n (i + 1) = headL n i := by
  unfold headL
  rw [heads_succ, if_neg h, List.append_nil]
theorem heads_split {n : Nat → Nat} {v : Nat} (hv : n v = v) : ∀ {i : Nat}, v < i → ∃ A B, heads n i = A ++ v :: B ∧ ∀ a ∈ A, a < v
  | 0, h => absurd h (Nat.not_lt_zero _)
  | i + 1, h => by
    rcases Nat.lt_or_ge v i with h2 | h2
    · obtain ⟨A, B, e, hA⟩ := heads_split hv h2
      refine ⟨A, B ++ (if n i = i then [i] else []), ?_, hA⟩
      rw [heads_succ, e, List.append_assoc]
      rfl
    · obtain rfl : v = i := by omega
      exact ⟨heads n v, [], by rw [heads_succ, if_pos hv], fun a ha => (heads_lt ha).1⟩
theorem posI_app : ∀ {A B : List Int} {x : Int}, (∀ a ∈ A, a < x) → posI (A ++ x :: B) x = A.length
  | [], B, x, _ => by
    unfold posI
    rw [List.nil_append, List.takeWhile_cons, if_neg (by simp)]
    try rfl
  | a :: A, B, x, h => by
    have ih := posI_app (A := A) (B := B) (x := x) fun z hz => h z (List.mem_cons_of_mem _ hz)
    unfold posI at ih ⊢
    rw [List.cons_append, List.takeWhile_cons, if_pos (by simpa using h a (List.mem_cons_self ..))]
    simp [ih]
theorem putI_in {A B : List Int} {x : Int} (h : ∀ a ∈ A, a < x) : putI (A ++ x :: B) x = A ++ x :: B := by
  refine putI_y (y := x) ?_ (by simp)
  rw [posI_app h, List.getElem?_append_right (Nat.le_refl _), Nat.sub_self]
  rfl
theorem put_heads {W : Nat} {s : ByteArray} {n : Nat → Nat} (hn : Num W s n) {i : Nat} (hi : i < s.size) : putI (headL n i) ((n i : Nat) : Int) = headL n (i + 1) := by
  by_cases h : n i = i
  · have hp : posI (headL n i) ((n i : Nat) : Int) = (headL n i).length := posI_all fun y hy => by
      unfold headL at hy
      obtain ⟨v, hv, rfl⟩ := List.mem_map.1 hy
      have := (heads_lt hv).1
      omega
    rw [putI_end hp, headL_y h, h, List.take_length, List.drop_length, List.append_nil]
  · have hlt : n i < i := by have := hn.le i hi; omega
    obtain ⟨A, B, e, hA⟩ := heads_split (hn.self hi) hlt
    rw [headL_n h]
    have e2 : headL n i = A.map (fun v => ((v : Nat) : Int)) ++ ((n i : Nat) : Int) :: B.map (fun v => ((v : Nat) : Int)) := by
      unfold headL
      rw [e, List.map_append, List.map_cons]
    rw [e2]
    exact putI_in fun a ha => by
      obtain ⟨v, hv, rfl⟩ := List.mem_map.1 ha
      have := hA v hv
      omega

end Go.Proofs.YtljdhhkebebhfaaDoor.Abs

/- Loops that keep some rows alone, numbered anew. -/
namespace Go.Proofs.YtljdhhkebebhfaaDoor.Abs
open Go.Proofs Go.RowKit
set_option linter.unusedVariables false
set_option linter.unusedSimpArgs false
set_option maxRecDepth 100000
set_option maxHeartbeats 2000000
section
variable {P : Program} {E : Env} {tm tm' : List AV} {M : Mem} {w : World} {a : Act} {ids : List Nat} {x x' : AV}
def RenL (M : Mem) (ids : List Nat) (tm tm' : List AV) : Prop := tm'.length = tm.length ∧ ∀ (i : Nat) x x', tm[i]? = some x → tm'[i]? = some x' → Ren M ids x x'
theorem RenL.nil : RenL M ids [] [] := ⟨rfl, fun i x x' h => by simp at h⟩
theorem RenL.cons (hx : Ren M ids x x') (h : RenL M ids tm tm') : RenL M ids (x :: tm) (x' :: tm') := ⟨by simp [h.1], fun i y y' h1 h2 => by
  cases i with
  | zero =>
    simp at h1 h2
    subst h1 h2
    exact hx
  | succ i => exact h.2 i y y' (by simpa using h1) (by simpa using h2)⟩
theorem RenL.any (h : RenL M ids tm tm') : RenL M ids (x :: tm) (.any :: tm') := h.cons fun w Fx β u hr => .any u
theorem RenL.own {id g pos : Nat} {b : Blk} (h : RenL M ids tm tm') (hM : M[id]? = some (some b) := by rfl) (hg : b.gen = g := by rfl) (hp : ids[pos]? = some id := by rfl) : RenL M ids (.own id g :: tm) (.own pos 0 :: tm') := h.cons (Ren.own hM hg hp)
theorem RenL.clo (h : RenL M ids tm tm') (he : x = x' := by first | rfl | simp_all) (hc : Clo x' := by first | exact clo_of (by rfl) | assumption) : RenL M ids (x :: tm) (x' :: tm') := h.cons (by subst he; exact Ren.clo hc)
theorem RenL.agg (h : RenL M ids tm tm') (hr : rokA M ids x) (he : renA ids x = x' := by rfl) : RenL M ids (x :: tm) (x' :: tm') := h.cons (he ▸ Ren.a hr)
theorem Sim.ren (hE : E.M = []) (hn : ids.Nodup) (hok : pkOk M ids) (hr : RenL M ids tm tm') (h : Sim E tm M a w) : Sim E tm' (packB M ids) a w := by
  obtain ⟨hd, Fx, β, hh, ho, hsl⟩ := h
  refine ⟨hd, Fx, ids.map fun id => (β[id]?).getD (Hd.flat undef), hh.pack hn hok hh.fx (fun pos id v k h1 h2 h3 => ?_), ⟨⟨ho.mv.fx, ho.mv.heap, by rw [gens_length, hE]; exact Nat.zero_le _, fun id g' hid => absurd hid (by simp [gens_length, hE])⟩, ho.size, ho.lim, fun pos b v k h1 h2 h3 => ?_⟩, hsl.1.trans hr.1.symm, fun t y u hy hu => ?_⟩
  · obtain ⟨b, g1, _, _⟩ := hok.get pos id h1
    obtain ⟨v', g2, g3⟩ := hh.blk id b g1
    rw [h2] at g2
    obtain rfl := Option.some.inj g2
    exact (g3.1 k h3).2.2
  · obtain ⟨id, b0, a1, a2, _, _⟩ := packB_get hok h1
    obtain ⟨v0, a3, _⟩ := hh.blk id b0 a2
    rw [List.getElem?_map, a1] at h2
    simp [a3] at h2
    subst h2
    exact ho.own id b0 v0 k a2 a3 h3
  · have hlt : t < tm.length := by rw [← hr.1]; exact (List.getElem?_eq_some_iff.1 hy).1
    rw [gens_packB hok]
    exact hr.2 t _ y (List.getElem?_eq_getElem hlt) hy _ _ _ _ (hsl.2 t _ u (List.getElem?_eq_getElem hlt) hu)
theorem AW.loopR {σ : Type} {c : Code} {Qx : XPost} (hE : E.M = []) (T : σ → List AV) (Mm : σ → Mem) (m : σ → Nat) (J : σ → Prop) (s0 : σ) (ids0 : List Nat) (h0 : J s0) (hn0 : ids0.Nodup) (hok0 : pkOk M ids0) (hr0 : RenL M ids0 tm (T s0)) (hM : packB M ids0 = Mm s0)
    (round : ∀ s, J s → AW P c E (T s) (Mm s) (fun e tm' M' => match e with | .normal => ∃ s' ids, J s' ∧ m s' < m s ∧ ids.Nodup ∧ pkOk M' ids ∧ RenL M' ids tm' (T s') ∧ packB M' ids = Mm s' | e => Qx e tm' M')) : AW P (.loop c) E tm M Qx := by
  intro a w Q hs k
  have hs0 := hs.ren hE hn0 hok0 hr0
  rw [hM] at hs0
  refine AW.loop (tm := T s0) (M := Mm s0) (fun n tm M => ∃ s, J s ∧ m s = n ∧ tm = T s ∧ M = Mm s) (m s0) ⟨s0, h0, rfl, rfl, rfl⟩ ?_ a w Q hs0 k
  rintro n tm M ⟨s, hs, rfl, rfl, rfl⟩
  intro a w Q hsim hq
  refine round s hs a w _ hsim fun e tm' M' a' w' hx hs' => ?_
  cases e with
  | normal =>
    obtain ⟨s', ids, g1, g2, g3, g4, g5, g6⟩ := hx
    exact hq .normal (T s') _ _ _ ⟨m s', g2, s', g1, rfl, rfl, rfl⟩ (g6 ▸ hs'.ren hE g3 g4 g5)
  | _ => exact hq _ _ _ _ _ hx hs'
end
section
variable {o : Oper} {E : Env} {tm tm' : List AV} {M X : Mem} {ops : Array Oper} {rest : List Oper} {ND : List AV → Prop} {r : AV} {m bm jj : Nat}
theorem DLS.W {j d : Nat} {oj : Oper} {b t : Bool} (hN : DLS Tryd.prog ops E M X m bm (jj + 1) rest tm' ND) (hjj : Nat.beq jj m = false := by rfl) (hm : bm.testBit jj = true := by rfl) (hg : o.guard = some (j, b) := by rfl) (hj : ops[j]? = some oj := by rfl) (hd : oj.dst = some d := by rfl) (hb : evA (msk (o.looksAt ops) tm) (.tmp d) = some (.c (.bool t)) := by rfl)
    (h : t = b → POp Tryd.prog o E (msk (o.looksAt ops) tm) M r M := by intro h; (try rw [h]); exact POp.qt) (e : dput tm o.dst (.when (bif b then t else !t) r) = tm' := by exact nrm) : DLS Tryd.prog ops E M X m bm jj (o :: rest) tm ND := by
  subst e
  exact .inr ⟨Nat.ne_of_beq_eq_false hjj, _, (by unfold GOp; rw [hg]; exact ⟨oj, d, hj, hd, .inl ⟨t, r, hb, h, rfl⟩⟩), .inl hm, hN⟩
end

end Go.Proofs.YtljdhhkebebhfaaDoor.Abs

/- Numbers passed on: plain. -/
namespace Go.Proofs.YtljdhhkebebhfaaDoor.Abs
open Go.Proofs Go.RowKit
set_option linter.unusedVariables false
set_option linter.unusedSimpArgs false
set_option maxRecDepth 100000
set_option maxHeartbeats 2000000
attribute [local irreducible] OpA AL AW DL DLM DLR DLS QOp POp VCalls VCallsI
def upd {α : Type} (f : Nat → α) (i : Nat) (v : α) : Nat → α := fun x => if x = i then v else f x
theorem upd_at {α : Type} (f : Nat → α) (i : Nat) (v : α) : upd f i v i = v := if_pos rfl
theorem upd_ne {α : Type} {f : Nat → α} {i x : Nat} {v : α} (h : x ≠ i) : upd f i v x = f x := if_neg h
def sumf (f : Nat → Nat) : Nat → Nat
  | 0 => 0
  | n + 1 => sumf f n + f n
theorem sumf_le {f : Nat → Nat} {i v : Nat} (hv : v < f i) : ∀ n, sumf (upd f i v) n ≤ sumf f n
  | 0 => Nat.le_refl _
  | n + 1 => by
    have ih := sumf_le hv n
    unfold sumf
    rcases Nat.decEq n i with h | h
    · rw [upd_ne h]; omega
    · rw [h, upd_at]; rw [h] at ih; omega
theorem sumf_lt {f : Nat → Nat} {i v : Nat} (hv : v < f i) : ∀ {n}, i < n → sumf (upd f i v) n < sumf f n
  | 0, h => absurd h (Nat.not_lt_zero _)
  | n + 1, h => by
    unfold sumf
    rcases Nat.decEq n i with h1 | h1
    · have ih := sumf_lt hv (n := n) (by omega)
      rw [upd_ne h1]; omega
    · have ih := sumf_le hv n
      rw [h1, upd_at]; rw [h1] at ih; omega
theorem numL_upd (f : Nat → Nat) (i v k : Nat) : numL (upd f i v) k = (numL f k).set i ((v : Nat) : Int) := by
  unfold numL
  apply List.ext_getElem?
  intro j
  rw [List.getElem?_set, List.getElem?_map, List.getElem?_map]
  rcases Nat.lt_or_ge j k with hj | hj
  · rw [List.getElem?_range hj]
    rcases Nat.decEq i j with h1 | h1
    · rw [if_neg h1, Option.map_some, Option.map_some, upd_ne (fun e => h1 e.symm)]
    · subst h1
      rw [if_pos rfl, if_pos (by simpa using hj), Option.map_some, upd_at]
  · rw [List.getElem?_eq_none (by simpa using hj)]
    rcases Nat.decEq i j with h1 | h1
    · rw [if_neg h1]; rfl
    · rw [if_pos h1, if_neg (by simp; omega)]; rfl
theorem numL_succ (f : Nat → Nat) (k : Nat) : numL f (k + 1) = numL f k ++ [((f k : Nat) : Int)] := by
  unfold numL
  rw [List.range_succ, List.map_append]
  rfl
structure Nv (W : Nat) (s : ByteArray) (f : Nat → Nat) : Prop where
  le : ∀ i, i < s.size → f i ≤ i
  rch : ∀ i, i < s.size → Rch W s i (f i)
theorem Nv.id (W : Nat) (s : ByteArray) : Nv W s (fun i => i) := ⟨fun i _ => Nat.le_refl i, fun i _ => .refl i⟩
theorem Nv.upd {W : Nat} {s : ByteArray} {f : Nat → Nat} {i k : Nat} (h : Nv W s f) (hi : i < s.size) (hk : k < s.size) (e : edg W s i k = true) (hl : f k < f i) : Nv W s (upd f i (f k)) := by
  refine ⟨fun x hx => ?_, fun x hx => ?_⟩
  · rcases Nat.decEq x i with h1 | h1
    · rw [upd_ne h1]; exact h.le x hx
    · subst h1
      rw [upd_at]
      exact Nat.le_trans (Nat.le_of_lt hl) (h.le x hx)
  · rcases Nat.decEq x i with h1 | h1
    · rw [upd_ne h1]; exact h.rch x hx
    · subst h1
      rw [upd_at]
      exact (Rch.step (.refl _) e hk hi).trans (h.rch k hk)
structure Pas (W : Nat) (s : ByteArray) (f0 f : Nat → Nat) (b : Bool) (i k : Nat) : Prop where
  nv : Nv W s f
  le : sumf f s.size ≤ sumf f0 s.size
  lt : b = true → sumf f s.size < sumf f0 s.size
  cl : b = false → (∀ j, j < i → ∀ y, y < s.size → edg W s j y = true → f j ≤ f y) ∧ ∀ y, y < k → edg W s i y = true → f i ≤ f y
section
variable {W : Nat} {s : ByteArray} {f0 f : Nat → Nat} {b : Bool} {i k : Nat}
theorem Pas.start (h : Nv W s f) : Pas W s f f false 0 0 := ⟨h, Nat.le_refl _, fun h => Bool.noConfusion h, fun _ => ⟨fun _ h => absurd h (Nat.not_lt_zero _), fun _ h => absurd h (Nat.not_lt_zero _)⟩⟩
theorem Pas.row (h : Pas W s f0 f b i s.size) : Pas W s f0 f b (i + 1) 0 := ⟨h.nv, h.le, h.lt, fun hb => ⟨fun j hj y hy e => by
  rcases Nat.lt_or_ge j i with h1 | h1
  · exact (h.cl hb).1 j h1 y hy e
  · obtain rfl : j = i := by omega
    exact (h.cl hb).2 y hy e, fun _ h => absurd h (Nat.not_lt_zero _)⟩⟩
theorem Pas.no (h : Pas W s f0 f b i k) (hn : edg W s i k = true → f i ≤ f k) : Pas W s f0 f b i (k + 1) := ⟨h.nv, h.le, h.lt, fun hb => ⟨(h.cl hb).1, fun y hy e => by
  rcases Nat.lt_or_ge y k with h1 | h1
  · exact (h.cl hb).2 y h1 e
  · obtain rfl : y = k := by omega
    exact hn e⟩⟩
theorem Pas.yes (h : Pas W s f0 f b i k) (hi : i < s.size) (hk : k < s.size) (e : edg W s i k = true) (hl : f k < f i) : Pas W s f0 (Abs.upd f i (f k)) true i (k + 1) := by
  have h1 := sumf_lt hl hi
  have h2 := h.le
  exact ⟨h.nv.upd hi hk e hl, by omega, fun _ => by omega, fun h => Bool.noConfusion h⟩
structure Psd (W : Nat) (s : ByteArray) (f : Nat → Nat) (b : Bool) : Prop where
  nv : Nv W s f
  cl : b = false → ∀ i, i < s.size → ∀ k, k < s.size → edg W s i k = true → f i ≤ f k
theorem Pas.fin (h : Pas W s f0 f b s.size 0) : Psd W s f b := ⟨h.nv, fun hb i hi k hk e => (h.cl hb).1 i hi k hk e⟩
theorem Pas.down (h : Pas W s f0 f b s.size 0) : 2 * sumf f s.size + b.toNat < 2 * sumf f0 s.size + true.toNat := by
  have h1 := h.le
  cases b with
  | false => simp only [Bool.toNat_false, Bool.toNat_true]; omega
  | true => have h2 := h.lt rfl; simp only [Bool.toNat_true]; omega
theorem Psd.num {n : Nat → Nat} (h : Psd W s f false) (hn : Num W s n) : numL f s.size = numL n s.size := by
  have hf : Num W s f := ⟨h.nv.le, h.nv.rch, fun i k hi hk e => Nat.le_antisymm (h.cl rfl i hi k hk e) (h.cl rfl k hk i hi (by rw [edg_comm]; exact e))⟩
  unfold numL
  refine List.map_congr_left fun i hi => ?_
  rw [hf.uniq hn (List.mem_range.1 hi)]
theorem Num.some (W : Nat) (s : ByteArray) : ∃ n, Num W s n := by
  classical
  have ex : ∀ i, ∃ j, Rch W s i j := fun i => ⟨i, .refl i⟩
  refine ⟨fun i => Classical.choose (least_of (ex i)), ?_⟩
  have sp := fun i => Classical.choose_spec (least_of (ex i))
  refine ⟨fun i _ => (sp i).2 i (.refl i), fun i _ => (sp i).1, fun i k hi hk e => ?_⟩
  have r : Rch W s i k := .step (.refl i) e hk hi
  exact Nat.le_antisymm ((sp i).2 _ (r.trans (sp k).1)) ((sp k).2 _ (r.symm.trans (sp i).1))
end

theorem next_s (W G : Nat) (s : ByteArray) (hW : 1 ≤ W ∧ W ≤ 6) (hG : 1 ≤ G ∧ G ≤ 6) (hs : s.size = W * G) (i k : Nat) (hi : i < 36) (hk : k < 36) : VCalls Tryd.prog 44 [.agg [I (W : Int), I (G : Int), S s], I (i : Int), I (k : Int)] (fun r M => r = B (nxt W i k) ∧ M = []) := by
  refine VB Tryd.func44 28 (fun E hE => ?_)
  have hW0 : (W : Int) ≠ 0 := by omega
  rcases Nat.lt_or_ge k i with hik | hik
  rotate_left 1
  case' inr =>
    have hd : decide ((i : Int) > (k : Int)) = false := by simp; omega
    have hnx := nx_le (W := W) (i := i) (k := k) (by omega) (by omega) hW
    rcases Bool.eq_false_or_eq_true (((k : Nat) : Int) == IntKind.i64.wrap ((i : Int) + (W : Int))) with h1 | h1
    rotate_left 1
    rcases Bool.eq_false_or_eq_true (((k : Nat) : Int) == IntKind.i64.wrap ((i : Int) + 1)) with h2 | h2
  case' inl =>
    have hd : decide ((i : Int) > (k : Int)) = true := by simp; omega
    have hnx := nx_le (W := W) (i := k) (k := i) (by omega) (by omega) hW
    rcases Bool.eq_false_or_eq_true (((i : Nat) : Int) == IntKind.i64.wrap ((k : Int) + (W : Int))) with h1 | h1
    rotate_left 1
    rcases Bool.eq_false_or_eq_true (((i : Nat) : Int) == IntKind.i64.wrap ((k : Int) + 1)) with h2 | h2
  repeat' ((first
    | (refine iAL ?_; first | refine AL.any ?_ | refine AL.U ?_ | refine AL.F ?_ | refine AL.T ?_ | refine AL.W ?_ | refine AL.nil ?_)
    | (refine iAW ?_; first | (refine AW.c0 ?_; constructor) | refine AW.cT ?_ | refine AW.cF ?_ | (refine AW.c2 ?_ ?_ <;> (intro h; try simp only [bT, bF] at h)))) <;> (try dsimp only))
  all_goals first
    | (exact Fin.one rfl (RV.tmp (by rfl)) (clo_c _) ⟨by rw [← hnx, h1, h2]; rfl, rfl⟩)
    | (exact Fin.one rfl (RV.tmp (by rfl)) (clo_c _) ⟨by rw [← hnx, h1]; rfl, rfl⟩)
    | (exact Fin.one rfl (RV.tmp (by rfl)) (clo_c _) ⟨by rw [nxt_comm, ← hnx, h1, h2]; rfl, rfl⟩)
    | (exact Fin.one rfl (RV.tmp (by rfl)) (clo_c _) ⟨by rw [nxt_comm, ← hnx, h1]; rfl, rfl⟩)


theorem fitsM_b {n : Nat} {b : Blk} {M : Mem} (h : ∀ r ∈ b.es, ∀ x ∈ r, Fits n x) (hm : FitsM n M) : FitsM n (some b :: M) := fun b' hb r hr x hx => by
  rcases List.mem_cons.1 hb with e | e
  · obtain rfl := Option.some.inj e
    exact h r hr x hx
  · exact hm b' e r hr x hx
theorem fitsM_d {n : Nat} {ty : TypeId} {sz g : Nat} {bx : Bool} {es : List (List AV)} {M : Mem} (h : DCl es) (hm : FitsM n M) : FitsM n (some ⟨ty, sz, g, bx, es⟩ :: M) := fitsM_b (b := ⟨ty, sz, g, bx, es⟩) (fun r hr x hx => fits_dcl (b := ⟨ty, sz, g, bx, es⟩) h _ (List.mem_singleton.2 rfl) r hr x hx) hm
theorem one_row {p : AV → Prop} {r0 : List AV} (h : ∀ x ∈ r0, p x) : ∀ r ∈ [r0], ∀ x ∈ r, p x := fun r hr => by rw [List.mem_singleton.1 hr]; exact h
theorem numL_map (f : Nat → Nat) {i N : Nat} (h : i < N) : ((numL f N).map enI)[i]? = some [I ((f i : Nat) : Int)] ∧ ((numL f N).map enI)[((i : Nat) : Int).toNat]? = some [I ((f i : Nat) : Int)] := by
  have e : ((numL f N).map enI)[i]? = some [I ((f i : Nat) : Int)] := by rw [List.getElem?_map, numL_get h]; rfl
  exact ⟨e, by rw [Int.toNat_natCast]; exact e⟩
theorem numL_set (f : Nat → Nat) (i v N : Nat) : (numL (Abs.upd f i v) N).map enI = ((numL f N).map enI).set ((i : Nat) : Int).toNat [I ((v : Nat) : Int)] := by rw [numL_upd, List.map_set, Int.toNat_natCast]
theorem numL_mlen (f : Nat → Nat) (N : Nat) : (((numL f N).map enI).length : Int) = (N : Int) := by rw [List.length_map, numL_len]
theorem nums15_s (W G : Nat) (s : ByteArray) (hW : 1 ≤ W ∧ W ≤ 6) (hG : 1 ≤ G ∧ G ≤ 6) (hs : s.size = W * G) (hc : isCover (W : Int) (G : Int) s = true) (n : Nat → Nat) (hnm : Num W s n) : VCalls Tryd.prog 30 [.agg [I (W : Int), I (G : Int), S s]] (fun r M => r = .own 0 0 ∧ M = [some ⟨3, 1, 0, false, (numL n s.size).map enI⟩]) := by
  refine VB Tryd.func30 66 (fun E hE => ?_)
  have hsz := isCover_size hc
  have aA := True.intro
  repeat' ((first
    | (refine iAL ?_; first | refine AL.any ?_ | refine AL.U ?_ | refine AL.F ?_ | refine AL.T ?_ | refine AL.W ?_ | refine AL.nil ?_)
    | ((with_reducible show DL ..); first | refine DL.any ?_ | refine DL.any (h := POp.k Tryd.func44 (hc := next_s W G s hW hG hs i k (by omega) (by omega))) ?_ | refine DL.U ?_ | refine DL.F ?_ | refine DL.T ?_ | refine DL.W ?_ | refine DL.nil ?_)
    | (refine iAW ?_; first | (refine AW.c0 ?_; constructor) | refine AW.dr (id := 15) 24 ?_ | refine AW.cT ?_ | refine AW.cF ?_ | (refine AW.c2 ?_ ?_ <;> (intro h; try simp only [bT, bF] at h)))
    | (have _ := aA
       clear aA
       refine AW.loopD hE (fun s_ : Nat => (.any :: .ref 0 0 3 0 0 :: .any :: .own 1 s_ :: I (s_ : Int) :: .any :: .any :: .any :: .any :: .any :: .any :: .any :: .any :: .any :: .any :: .any :: .any :: .any :: .any :: .any :: .any :: .any :: .any :: .any :: .any :: .any :: .any :: .any :: .any :: .any :: .any :: .any :: .any :: .any :: .any :: .any :: .any :: .any :: .any :: .any :: .any :: .any :: .any :: .any :: .any :: .any :: .any :: .any :: .any :: .any :: .any :: .any :: .any :: .any :: .any :: .any :: .any :: .any :: .any :: .any :: .any :: .any :: .any :: .any :: .any :: .any :: .any :: [])) (fun s_ => [some ⟨34, 3, 0, true, [[I (W : Int), I (G : Int), S s]]⟩, some ⟨3, 1, s_, false, (numL (fun x => x) s_).map enI⟩]) (fun s_ => s.size - s_) (fun s_ => s_ ≤ s.size) 0 (Nat.zero_le _) ?_ (by first | rfl | (rfl)) ?_
       (focus (exact wkI))
       rintro i hJ
       try dsimp only at hJ
       try dsimp only
       by_cases hlt : i < s.size
       case' pos =>
         have pA := True.intro
         have ht := str_lt hlt
         have hn := next_ix (n := s.size) hlt (by omega)
         have hml := numL_mlen (fun x => x) i
       case' neg =>
         have aB := True.intro
         have ht := str_ge hlt
         obtain rfl : i = s.size := by omega)
    | (have _ := aB
       clear aB
       refine AW.loopD hE (fun s_ : (Nat → Nat) × Bool => (.any :: .ref 0 0 3 0 0 :: .any :: .own 1 s.size :: .any :: B s_.2 :: .any :: .any :: .any :: .any :: .any :: .any :: .any :: .any :: .any :: .any :: .any :: .any :: .any :: .any :: .any :: .any :: .any :: .any :: .any :: .any :: .any :: .any :: .any :: .any :: .any :: .any :: .any :: .any :: .any :: .any :: .any :: .any :: .any :: .any :: .any :: .any :: .any :: .any :: .any :: .any :: .any :: .any :: .any :: .any :: .any :: .any :: .any :: .any :: .any :: .any :: .any :: .any :: .any :: .any :: .any :: .any :: .any :: .any :: .any :: .any :: .any :: [])) (fun s_ => [some ⟨34, 3, 0, true, [[I (W : Int), I (G : Int), S s]]⟩, some ⟨3, 1, s.size, false, (numL s_.1 s.size).map enI⟩]) (fun s_ => 2 * sumf s_.1 s.size + s_.2.toNat) (fun s_ => Psd W s s_.1 s_.2) (fun x => x, true) ⟨Nv.id W s, fun h => Bool.noConfusion h⟩ ?_ (by first | rfl | (rfl)) ?_
       (focus (exact wkI))
       rintro ⟨f, b⟩ hJ
       try dsimp only at hJ
       try dsimp only
       by_cases hlt : b = true
       case' pos =>
         have aC := True.intro
         subst hlt
         have hml := numL_mlen f s.size
       case' neg =>
         have qB := True.intro
         obtain rfl : b = false := by simpa using hlt
         have hE9 := hJ.num hnm)
    | (have _ := aC
       clear aC
       refine AW.loopD hE (fun s_ : (Nat → Nat) × Bool × Nat => (.any :: .ref 0 0 3 0 0 :: .any :: .own 1 s.size :: .any :: B s_.2.1 :: I (s_.2.2 : Int) :: .any :: .any :: .any :: .any :: .any :: .any :: .any :: .any :: .any :: .any :: .any :: .any :: .any :: .any :: .any :: .any :: .any :: .any :: .any :: .any :: .any :: .any :: .any :: .any :: .any :: .any :: .any :: .any :: .any :: .any :: .any :: .any :: .any :: .any :: .any :: .any :: .any :: .any :: .any :: .any :: .any :: .any :: .any :: .any :: .any :: .any :: .any :: .any :: .any :: .any :: .any :: .any :: .any :: .any :: .any :: .any :: .any :: .any :: .any :: .any :: [])) (fun s_ => [some ⟨34, 3, 0, true, [[I (W : Int), I (G : Int), S s]]⟩, some ⟨3, 1, s.size, false, (numL s_.1 s.size).map enI⟩]) (fun s_ => s.size - s_.2.2) (fun s_ => Pas W s f s_.1 s_.2.1 s_.2.2 0 ∧ s_.2.2 ≤ s.size) (f, false, 0) ⟨Pas.start hJ.nv, Nat.zero_le _⟩ ?_ (by first | rfl | (rfl)) ?_
       (focus (exact wkI))
       rintro ⟨f', b', i⟩ hC
       try dsimp only at hC
       try dsimp only
       by_cases hlt : i < s.size
       case' pos =>
         have aD := True.intro
         have ht : decide ((i : Int) < (((numL f' s.size).map enI).length : Int)) = true := by rw [numL_mlen]; exact str_lt hlt
       case' neg =>
         have qC := True.intro
         have ht : decide ((i : Int) < (((numL f' s.size).map enI).length : Int)) = false := by rw [numL_mlen]; exact str_ge hlt
         obtain rfl : i = s.size := by have := hC.2; omega)
    | (have _ := aD
       clear aD
       refine AW.loopD hE (fun s_ : (Nat → Nat) × Bool × Nat => (.any :: .ref 0 0 3 0 0 :: .any :: .own 1 s.size :: .any :: B s_.2.1 :: I (i : Int) :: I (s_.2.2 : Int) :: .any :: .any :: .any :: .any :: .any :: .any :: .any :: .any :: .any :: .any :: .any :: .any :: .any :: .any :: .any :: .any :: .any :: .any :: .any :: .any :: .any :: .any :: .any :: .any :: .any :: .any :: .any :: .any :: .any :: .any :: .any :: .any :: .any :: .any :: .any :: .any :: .any :: .any :: .any :: .any :: .any :: .any :: .any :: .any :: .any :: .any :: .any :: .any :: .any :: .any :: .any :: .any :: .any :: .any :: .any :: .any :: .any :: .any :: .any :: [])) (fun s_ => [some ⟨34, 3, 0, true, [[I (W : Int), I (G : Int), S s]]⟩, some ⟨3, 1, s.size, false, (numL s_.1 s.size).map enI⟩]) (fun s_ => s.size - s_.2.2) (fun s_ => Pas W s f s_.1 s_.2.1 i s_.2.2 ∧ s_.2.2 ≤ s.size) (f', b', 0) ⟨hC.1, Nat.zero_le _⟩ ?_ (by first | rfl | (rfl)) ?_
       (focus (exact wkI))
       rintro ⟨g, c, k⟩ hD
       try dsimp only at hD
       try dsimp only
       by_cases hlt : k < s.size
       case' pos =>
         have pD := True.intro
         have ht : decide ((k : Int) < (((numL g s.size).map enI).length : Int)) = true := by rw [numL_mlen]; exact str_lt (by assumption)
         have hn := next_ix (i := k) (n := s.size) (by assumption) (by omega)
         have hml := numL_mlen g s.size
         obtain ⟨hgi, hgi'⟩ := numL_map g (i := i) (N := s.size) (by assumption)
         obtain ⟨hgk, hgk'⟩ := numL_map g (i := k) (N := s.size) (by assumption)
         obtain ⟨bi, hbi, hbi'⟩ := str_get (s := s) (i := i) (by assumption)
         obtain ⟨bk, hbk, hbk'⟩ := str_get (s := s) (i := k) (by assumption)
         have hed : edg W s i k = (nxt W i k && decide (bi = bk)) := by unfold edg; rw [hbi, hbk]; by_cases e : bi = bk <;> simp [e]
         have hu8 := u8_eq bi bk
         rcases Bool.eq_false_or_eq_true (nxt W i k) with h1 | h1
         case' inr =>
           have hP := hD.1.no (k := k) (fun e => absurd e (by rw [hed, h1]; simp))
           have hk0 := True.intro
         case' inl =>
           rcases Bool.eq_false_or_eq_true (decide (bi = bk)) with h2 | h2
           case' inr =>
             have hP := hD.1.no (k := k) (fun e => absurd e (by rw [hed, h2]; simp))
             have hk0 := True.intro
             rw [h2] at hu8
           case' inl =>
             rw [h2] at hu8
             rcases Nat.lt_or_ge (g k) (g i) with h3 | h3
             case' inl =>
               have hP := hD.1.yes (k := k) (by assumption) (by assumption) (by rw [hed, h1, h2]; rfl) h3
               have h4 : decide (((g k : Nat) : Int) < ((g i : Nat) : Int)) = true := by simp; omega
               have hk1 := True.intro
               have hst := numL_set g i (g k) s.size
             case' inr =>
               have hP := hD.1.no (k := k) (fun _ => h3)
               have h4 : decide (((g k : Nat) : Int) < ((g i : Nat) : Int)) = false := by simp; omega
               have hk0 := True.intro
       case' neg =>
         have qD := True.intro
         have ht : decide ((k : Int) < (((numL g s.size).map enI).length : Int)) = false := by rw [numL_mlen]; exact str_ge (by assumption)
         obtain rfl : k = s.size := by have := hD.2; omega
         have hn := next_ix (i := i) (n := s.size) (by assumption) (by omega))
    | with_reducible refine ifP ?_
    | with_reducible refine ifN ?_) <;> (try dsimp only))
  all_goals first
    | (have _ := pA; refine ⟨i + 1, _, (by omega), by omega, ?_, (by rw [numL_succ, List.map_append] <;> rfl), ?_, ?_⟩; (focus (exact wkN)); (focus (exact fitsA)); (focus (exact fitsM_b (one_row (by repeat' (first | exact Fits.nil _ | refine Fits.cons ?_ ?_ | exact Fits.c _ _))) (fits_dcl (DCl.map (fun _ => rfl))))))
    | (have _ := hk1; refine ⟨(Abs.upd g i (g k), true, k + 1), _, ⟨hP, hlt⟩, by (show s.size - (k + 1) < s.size - k; omega), ?_, (by dsimp only; rw [hst] <;> rfl), ?_, ?_⟩; (focus (exact wkN)); (focus (exact fitsA)); (focus (exact fitsM_b (one_row (by repeat' (first | exact Fits.nil _ | refine Fits.cons ?_ ?_ | exact Fits.c _ _))) (fits_dcl (DCl.map (fun _ => rfl))))))
    | (have _ := hk0; refine ⟨(g, c, k + 1), _, ⟨hP, hlt⟩, by (show s.size - (k + 1) < s.size - k; omega), ?_, rfl, ?_, ?_⟩; (focus (exact wkN)); (focus (exact fitsA)); (focus (exact fitsM_b (one_row (by repeat' (first | exact Fits.nil _ | refine Fits.cons ?_ ?_ | exact Fits.c _ _))) (fits_dcl (DCl.map (fun _ => rfl))))))
    | (have _ := qD; refine ⟨(g, c, i + 1), _, ⟨hD.1.row, by dsimp only; omega⟩, by (show s.size - (i + 1) < s.size - i; omega), ?_, rfl, ?_, ?_⟩; (focus (exact wkN)); (focus (exact fitsA)); (focus (exact fitsM_b (one_row (by repeat' (first | exact Fits.nil _ | refine Fits.cons ?_ ?_ | exact Fits.c _ _))) (fits_dcl (DCl.map (fun _ => rfl))))))
    | (have _ := qC; refine ⟨(f', b'), _, hC.1.fin, by exact hC.1.down, ?_, rfl, ?_, ?_⟩; (focus (exact wkN)); (focus (exact fitsA)); (focus (exact fitsM_b (one_row (by repeat' (first | exact Fits.nil _ | refine Fits.cons ?_ ?_ | exact Fits.c _ _))) (fits_dcl (DCl.map (fun _ => rfl))))))
    | (have _ := qB; rw [hE9]; exact Fin.r1 [1] rfl (RV.tmp (by rfl)) ⟨rfl, rfl⟩)

theorem nums15_s' (W G : Nat) (s : ByteArray) (hW : 1 ≤ W ∧ W ≤ 6) (hG : 1 ≤ G ∧ G ≤ 6) (hs : s.size = W * G) (hc : isCover (W : Int) (G : Int) s = true) (n : Nat → Nat) (hnm : Num W s n) : VCalls Tryd.prog 30 [.agg [I (W : Int), I (G : Int), S s]] (fun r M => r = .ro 1 ((numL n s.size).map enI) ∧ M = []) := VCalls.frz (nums15_s W G s hW hG hs hc n hnm) vwlT
theorem bes_get {W G x : Nat} {s : ByteArray} (hW : 1 ≤ W ∧ W ≤ 6) (hG : 1 ≤ G ∧ G ≤ 6) (hs : s.size = W * G) (hx : x < s.size) : (∀ z, z ∈ bes W G x → ∃ y : Nat, z = ((y : Nat) : Int) ∧ y < s.size ∧ nxt W x y = true) ∧ ∀ y, y < s.size → nxt W x y = true → ((y : Nat) : Int) ∈ bes W G x := by
  have hm1 : W * G ≤ 6 * 6 := Nat.mul_le_mul hW.2 hG.2
  have e0 : IntKind.i64.wrap (((x : Nat) : Int) - (W : Int)) = (x : Int) - (W : Int) := w64 (by omega) (by omega)
  have e1 : IntKind.i64.wrap (((x : Nat) : Int) - 1) = (x : Int) - 1 := w64 (by omega) (by omega)
  have e2 : IntKind.i64.wrap (((x : Nat) : Int) + 1) = (x : Int) + 1 := w64 (by omega) (by omega)
  have e3 : IntKind.i64.wrap (((x : Nat) : Int) + (W : Int)) = (x : Int) + (W : Int) := w64 (by omega) (by omega)
  have e4 : IntKind.i64.wrap ((W : Int) - 1) = (W : Int) - 1 := w64 (by omega) (by omega)
  have e5 : IntKind.i64.wrap ((W : Int) * (G : Int)) = ((W * G : Nat) : Int) := by rw [w64 (by rw [← Int.natCast_mul]; omega) (by rw [← Int.natCast_mul]; omega), Int.natCast_mul]
  have e6 : Int.tmod ((x : Nat) : Int) (W : Int) = ((x % W : Nat) : Int) := by rw [Int.tmod_eq_emod_of_nonneg (by omega)]; exact (Int.natCast_emod x W).symm
  have key : ∀ z : Int, z ∈ bes W G x ↔ ((W ≤ x ∧ z = (x : Int) - (W : Int)) ∨ (0 < x % W ∧ z = (x : Int) - 1) ∨ (x % W + 1 < W ∧ z = (x : Int) + 1) ∨ (x + W < W * G ∧ z = (x : Int) + (W : Int))) := fun z => by
    have cnd : ∀ (b : Bool) (v : Int), z ∈ (bif b then [v] else []) ↔ (b = true ∧ z = v) := fun b v => by cases b <;> simp
    unfold bes
    rw [e0, e1, e2, e3, e4, e5, e6]
    simp only [List.mem_append, cnd, decide_eq_true_eq]
    constructor
    · rintro (((h | h) | h) | h)
      · exact .inl ⟨by omega, h.2⟩
      · exact .inr (.inl ⟨by omega, h.2⟩)
      · exact .inr (.inr (.inl ⟨by omega, h.2⟩))
      · exact .inr (.inr (.inr ⟨by omega, h.2⟩))
    · rintro (h | h | h | h)
      · exact .inl (.inl (.inl ⟨by omega, h.2⟩))
      · exact .inl (.inl (.inr ⟨by omega, h.2⟩))
      · exact .inl (.inr ⟨by omega, h.2⟩)
      · exact .inr ⟨by omega, h.2⟩
  have hmod := Nat.div_add_mod x W
  have hmodl := Nat.mod_lt x (show W > 0 by omega)
  -- the next cell in the same row, and the one in the row above
  have up : ∀ y, y = x + 1 → (y % W ≠ 0 ↔ x % W + 1 < W) := fun y hy => by
    subst hy
    rw [Nat.add_mod]
    rcases Nat.lt_or_ge (x % W + 1) W with h | h
    · rcases Nat.lt_or_ge 1 W with hw | hw
      · rw [Nat.mod_eq_of_lt (a := 1) hw, Nat.mod_eq_of_lt h]; omega
      · omega
    · have e : x % W + 1 = W := by omega
      rcases Nat.lt_or_ge 1 W with hw | hw
      · rw [Nat.mod_eq_of_lt (a := 1) hw, e, Nat.mod_self]; omega
      · have : W = 1 := by omega
        subst this
        rw [Nat.mod_one]
        omega
  have lt : ∀ {a b : Nat}, (a < W * G) → b = a + 1 → b % W ≠ 0 → b < W * G := fun {a b} ha hb hm => by
    rcases Nat.lt_or_ge b (W * G) with h | h
    · exact h
    · have : b = W * G := by omega
      rw [this, Nat.mul_mod_right] at hm
      exact absurd rfl hm
  rw [hs] at hx ⊢
  constructor
  · intro z hz
    rcases (key z).1 hz with ⟨h1, h2⟩ | ⟨h1, h2⟩ | ⟨h1, h2⟩ | ⟨h1, h2⟩
    · refine ⟨x - W, by omega, by omega, ?_⟩
      unfold nxt
      rw [Nat.max_eq_left (by omega), Nat.min_eq_right (by omega)]
      simp; omega
    · refine ⟨x - 1, by have : x ≠ 0 := fun e => by subst e; simp at h1
                        omega, by omega, ?_⟩
      unfold nxt
      rw [Nat.max_eq_left (by omega), Nat.min_eq_right (by omega)]
      have : x ≠ 0 := fun e => by subst e; simp at h1
      simp; omega
    · have hu := (up (x + 1) rfl).2 h1
      refine ⟨x + 1, by omega, lt hx rfl hu, ?_⟩
      unfold nxt
      rw [Nat.max_eq_right (by omega), Nat.min_eq_left (by omega)]
      simp [hu]
    · refine ⟨x + W, by omega, h1, ?_⟩
      unfold nxt
      rw [Nat.max_eq_right (by omega), Nat.min_eq_left (by omega)]
      simp
  · intro y hy hn
    refine (key _).2 ?_
    unfold nxt at hn
    rw [Bool.or_eq_true, Bool.and_eq_true, beq_iff_eq, beq_iff_eq, bne_iff_ne] at hn
    rcases Nat.lt_or_ge x y with h | h
    · rw [Nat.max_eq_right (by omega), Nat.min_eq_left (by omega)] at hn
      rcases hn with hn | ⟨hn, hm⟩
      · exact .inr (.inr (.inr ⟨by omega, by omega⟩))
      · exact .inr (.inr (.inl ⟨(up y hn).1 hm, by omega⟩))
    · rw [Nat.max_eq_left (by omega), Nat.min_eq_right (by omega)] at hn
      rcases hn with hn | ⟨hn, hm⟩
      · exact .inl ⟨by omega, by omega⟩
      · exact .inr (.inl ⟨by omega, by omega⟩)
def oV (n : Nat → Nat) (i : Nat) (c : Nat → Bool) (k : Nat) : Int := if n k < i then ((n k : Nat) : Int) else if c k then ((i : Nat) : Int) else -1
def oL (n : Nat → Nat) (i : Nat) (c : Nat → Bool) (N : Nat) : List Int := (List.range N).map (oV n i c)
abbrev c0 : Nat → Bool := fun _ => false
theorem oV_lt {n : Nat → Nat} {i : Nat} {c : Nat → Bool} {k : Nat} (h : n k < i) : oV n i c k = ((n k : Nat) : Int) := if_pos h
theorem oV_y {n : Nat → Nat} {i : Nat} {c : Nat → Bool} {k : Nat} (h : ¬ n k < i) (hc : c k = true) : oV n i c k = ((i : Nat) : Int) := (if_neg h).trans (by rw [hc]; rfl)
theorem oV_n {n : Nat → Nat} {i : Nat} {c : Nat → Bool} {k : Nat} (h : ¬ n k < i) (hc : c k = false) : oV n i c k = -1 := (if_neg h).trans (by rw [hc]; rfl)
theorem oL_len (n : Nat → Nat) (i : Nat) (c : Nat → Bool) (N : Nat) : (oL n i c N).length = N := by simp [oL]
theorem oL_get {n : Nat → Nat} {i : Nat} {c : Nat → Bool} {N k : Nat} (h : k < N) : (oL n i c N)[k]? = some (oV n i c k) := by
  unfold oL
  rw [List.getElem?_map, List.getElem?_range h]
  rfl
theorem oL_set {n : Nat → Nat} {i : Nat} {c : Nat → Bool} {N k : Nat} (hk : ¬ n k < i) : oL n i (upd c k true) N = (oL n i c N).set k ((i : Nat) : Int) := by
  apply List.ext_getElem?
  intro j
  rcases Nat.lt_or_ge j N with hj | hj
  · rw [oL_get hj, List.getElem?_set, oL_get hj, oL_len]
    rcases Nat.decEq k j with h1 | h1
    · rw [if_neg h1]
      unfold oV
      rw [upd_ne (fun e => h1 e.symm)]
    · subst h1
      rw [if_pos rfl, if_pos hj]
      unfold oV
      rw [if_neg hk, upd_at, if_pos rfl]
  · rw [List.getElem?_eq_none (by rw [oL_len]; exact hj), List.getElem?_eq_none (by rw [List.length_set, oL_len]; exact hj)]
theorem oL_congr {n : Nat → Nat} {i i' : Nat} {c c' : Nat → Bool} {N : Nat} (h : ∀ k, k < N → oV n i c k = oV n i' c' k) : oL n i c N = oL n i' c' N := List.map_congr_left fun k hk => h k (List.mem_range.1 hk)
def cntF (c : Nat → Bool) : Nat → Nat
  | 0 => 0
  | n + 1 => cntF c n + if c n then 0 else 1
theorem cntF_ge {c : Nat → Bool} {y : Nat} : ∀ {N}, N ≤ y → cntF (upd c y true) N = cntF c N
  | 0, _ => rfl
  | N + 1, h => by
    unfold cntF
    rw [cntF_ge (by omega), upd_ne (by omega)]
theorem cntF_upd {c : Nat → Bool} {y : Nat} (hc : c y = false) : ∀ {N}, y < N → cntF (upd c y true) N + 1 = cntF c N
  | 0, h => absurd h (Nat.not_lt_zero _)
  | N + 1, h => by
    unfold cntF
    rcases Nat.decEq N y with h1 | h1
    · have ih := cntF_upd hc (N := N) (by omega)
      rw [upd_ne h1]; omega
    · subst h1
      rw [cntF_ge (Nat.le_refl _), upd_at, hc]; simp
theorem Rch.same {W : Nat} {s : ByteArray} {i k : Nat} (h : Rch W s i k) : s[i]? = s[k]? := by
  induction h with
  | refl => rfl
  | step _ e _ _ ih =>
    unfold edg at e
    rw [Bool.and_eq_true, beq_iff_eq] at e
    exact ih.trans e.2
structure Fl (W : Nat) (s : ByteArray) (n : Nat → Nat) (i : Nat) (c : Nat → Bool) (st : List Nat) : Prop where
  ci : c i = true
  cn : ∀ k, k < s.size → c k = true → n k = i
  sub : ∀ a, a ∈ st → a < s.size ∧ c a = true
  cl : ∀ j, j < s.size → c j = true → j ∉ st → ∀ y, y < s.size → edg W s j y = true → c y = true
structure Fx (W G : Nat) (s : ByteArray) (n : Nat → Nat) (i x : Nat) (c : Nat → Bool) (st : List Nat) (q : Nat) : Prop where
  ci : c i = true
  cn : ∀ k, k < s.size → c k = true → n k = i
  sub : ∀ a, a ∈ st → a < s.size ∧ c a = true
  cl : ∀ j, j < s.size → c j = true → j ∉ st → j ≠ x → ∀ y, y < s.size → edg W s j y = true → c y = true
  xs : x < s.size ∧ c x = true
  dn : ∀ p, p < q → ∀ y : Nat, (bes W G x)[p]? = some ((y : Nat) : Int) → edg W s x y = true → c y = true
section
variable {W G : Nat} {s : ByteArray} {n : Nat → Nat} {i x q : Nat} {c : Nat → Bool} {st : List Nat}
theorem Fl.start (hn : Num W s n) (hi : i < s.size) (hni : ¬ n i < i) : Fl W s n i (upd c0 i true) [i] := by
  have e : n i = i := by have := hn.le i hi; omega
  have only : ∀ k, upd c0 i true k = true → k = i := fun k hk => by
    rcases Nat.decEq k i with h | h
    · rw [upd_ne h] at hk; exact Bool.noConfusion hk
    · exact h
  refine ⟨upd_at _ _ _, fun k _ hk => by rw [only k hk]; exact e, fun a ha => ?_, fun j _ hj hno => ?_⟩
  · rw [List.mem_singleton.1 ha]
    exact ⟨hi, upd_at _ _ _⟩
  · exact absurd (by rw [only j hj]; exact List.mem_singleton.2 rfl) hno
theorem Fl.open (h : Fl W s n i c (st ++ [x])) : Fx W G s n i x c st 0 := ⟨h.ci, h.cn, fun a ha => h.sub a (List.mem_append_left _ ha), fun j hj hc hno hne => h.cl j hj hc (fun hm => by
  rcases List.mem_append.1 hm with h1 | h1
  · exact hno h1
  · exact hne (List.mem_singleton.1 h1)), h.sub x (List.mem_append_right _ (List.mem_singleton.2 rfl)), fun p hp => absurd hp (Nat.not_lt_zero _)⟩
theorem Fx.fin (hW : 1 ≤ W ∧ W ≤ 6) (hG : 1 ≤ G ∧ G ≤ 6) (hs : s.size = W * G) (h : Fx W G s n i x c st (bes W G x).length) : Fl W s n i c st := ⟨h.ci, h.cn, h.sub, fun j hj hc hno y hy e => by
  rcases Nat.decEq j x with h1 | h1
  · exact h.cl j hj hc hno h1 y hy e
  · subst h1
    have hnx : nxt W j y = true := by unfold edg at e; exact (Bool.and_eq_true _ _ ▸ e).1
    obtain ⟨p, hp⟩ := List.mem_iff_getElem?.1 ((bes_get hW hG hs hj).2 y hy hnx)
    exact h.dn p (List.getElem?_eq_some_iff.1 hp).1 y hp e⟩
theorem Fx.no {y : Nat} (h : Fx W G s n i x c st q) (hy : (bes W G x)[q]? = some ((y : Nat) : Int)) (hno : edg W s x y = true → c y = true) : Fx W G s n i x c st (q + 1) := ⟨h.ci, h.cn, h.sub, h.cl, h.xs, fun p hp z hz e => by
  rcases Nat.lt_or_ge p q with h1 | h1
  · exact h.dn p h1 z hz e
  · obtain rfl : p = q := by omega
    rw [hz] at hy
    obtain rfl : z = y := by have := Option.some.inj hy; omega
    exact hno e⟩
theorem Fx.yes {y : Nat} (hn : Num W s n) (h : Fx W G s n i x c st q) (hy : (bes W G x)[q]? = some ((y : Nat) : Int)) (hyl : y < s.size) (e : edg W s x y = true) : Fx W G s n i x (upd c y true) (st ++ [y]) (q + 1) := by
  have mono : ∀ k, c k = true → upd c y true k = true := fun k hk => by
    rcases Nat.decEq k y with h1 | h1
    · rw [upd_ne h1]; exact hk
    · rw [h1, upd_at]
  have back : ∀ k, upd c y true k = true → k = y ∨ c k = true := fun k hk => by
    rcases Nat.decEq k y with h1 | h1
    · rw [upd_ne h1] at hk; exact .inr hk
    · exact .inl h1
  have hny : n y = i := (hn.eq x y h.xs.1 hyl e).symm.trans (h.cn x h.xs.1 h.xs.2)
  refine ⟨mono _ h.ci, fun k hk hc => ?_, fun a ha => ?_, fun j hj hc hno hne z hz ez => ?_, ⟨h.xs.1, mono _ h.xs.2⟩, fun p hp z hz ez => ?_⟩
  · rcases back k hc with rfl | h1
    · exact hny
    · exact h.cn k hk h1
  · rcases List.mem_append.1 ha with h1 | h1
    · exact ⟨(h.sub a h1).1, mono _ (h.sub a h1).2⟩
    · rw [List.mem_singleton.1 h1]
      exact ⟨hyl, upd_at _ _ _⟩
  · rcases back j hc with rfl | h1
    · exact absurd (List.mem_append_right _ (List.mem_singleton.2 rfl)) hno
    · exact mono _ (h.cl j hj h1 (fun hm => hno (List.mem_append_left _ hm)) hne z hz ez)
  · rcases Nat.lt_or_ge p q with h1 | h1
    · exact mono _ (h.dn p h1 z hz ez)
    · obtain rfl : p = q := by omega
      rw [hz] at hy
      obtain rfl : z = y := by have := Option.some.inj hy; omega
      exact upd_at _ _ _
theorem Fl.all (h : Fl W s n i c []) (hi : i < s.size) {k : Nat} (hr : Rch W s i k) : c k = true := by
  induction hr with
  | refl => exact h.ci
  | step _ e hk hj ih => exact h.cl _ hj ih List.not_mem_nil _ hk e
theorem Fl.done (hn : Num W s n) (h : Fl W s n i c []) (hi : i < s.size) : oL n i c s.size = oL n (i + 1) c0 s.size := oL_congr fun k hk => by
  rcases Nat.lt_or_ge (n k) i with h1 | h1
  · rw [oV_lt h1, oV_lt (by omega)]
  · rcases Nat.decEq (n k) i with h2 | h2
    · have : c k = false := by
        rcases Bool.eq_false_or_eq_true (c k) with h3 | h3
        · exact absurd (h.cn k hk h3) h2
        · exact h3
      rw [oV_n (by omega) this, oV_n (by omega) rfl]
    · rw [oV_y (by omega) (h.all hi (by have := (hn.rch k hk).symm; rw [h2] at this; exact this)), oV_lt (by omega), h2]
theorem oL_skip (hn : Num W s n) (hi : i < s.size) (h : n i < i) : oL n i c0 s.size = oL n (i + 1) c0 s.size := oL_congr fun k hk => by
  rcases Nat.lt_or_ge (n k) i with h1 | h1
  · rw [oV_lt h1, oV_lt (by omega)]
  · rcases Nat.decEq (n k) i with h2 | h2
    · rw [oV_n (by omega) rfl, oV_n (by omega) rfl]
    · have := hn.self hk
      rw [h2] at this
      omega
theorem oL_fin (hn : Num W s n) : oL n s.size c0 s.size = numL n s.size := List.map_congr_left fun k hk => by
  have hk := List.mem_range.1 hk
  have := hn.le k hk
  exact if_pos (by omega)
theorem oL_zero (N : Nat) : oL n 0 c0 N = List.replicate N (-1) := by
  apply List.ext_getElem?
  intro j
  rcases Nat.lt_or_ge j N with hj | hj
  · rw [oL_get hj, List.getElem?_replicate, if_pos hj]
    rfl
  · rw [List.getElem?_eq_none (by rw [oL_len]; exact hj), List.getElem?_eq_none (by simpa using hj)]
end
def filL (j N : Nat) : List Int := (List.range N).map fun k => if k < j then -1 else 0
theorem filL_len (j N : Nat) : (filL j N).length = N := by simp [filL]
theorem filL_set (j N : Nat) : filL (j + 1) N = (filL j N).set j (-1) := by
  apply List.ext_getElem?
  intro k
  unfold filL
  rw [List.getElem?_set, List.getElem?_map, List.getElem?_map]
  rcases Nat.lt_or_ge k N with hj | hj
  · rw [List.getElem?_range hj]
    rcases Nat.decEq j k with h1 | h1
    · rw [if_neg h1, Option.map_some, Option.map_some]
      congr 1
      rcases Nat.lt_or_ge k j with h2 | h2
      · rw [if_pos h2, if_pos (by omega)]
      · rw [if_neg (by omega), if_neg (by omega)]
    · subst h1
      rw [if_pos rfl, if_pos (by simpa using hj), Option.map_some, if_pos (by omega)]
  · rw [List.getElem?_eq_none (by simpa using hj)]
    rcases Nat.decEq j k with h1 | h1
    · rw [if_neg h1]; rfl
    · rw [if_pos h1, if_neg (by simp; omega)]; rfl
theorem filL_0 (N : Nat) : filL 0 N = List.replicate N 0 := by
  unfold filL
  apply List.ext_getElem?
  intro j
  rw [List.getElem?_map, List.getElem?_replicate]
  rcases Nat.lt_or_ge j N with hj | hj
  · rw [List.getElem?_range hj, if_pos hj]; rfl
  · rw [List.getElem?_eq_none (by simpa using hj), if_neg (by omega)]; rfl
theorem filL_N (n : Nat → Nat) (N : Nat) : filL N N = oL n 0 c0 N := by
  rw [oL_zero]
  unfold filL
  apply List.ext_getElem?
  intro j
  rw [List.getElem?_map, List.getElem?_replicate]
  rcases Nat.lt_or_ge j N with hj | hj
  · rw [List.getElem?_range hj, if_pos hj]
    simp [hj]
  · rw [List.getElem?_eq_none (by simpa using hj), if_neg (by omega)]; rfl
theorem enI_get {l : List Int} {k : Nat} {v : Int} (h : l[k]? = some v) : (l.map enI)[k]? = some [I v] ∧ (l.map enI)[((k : Nat) : Int).toNat]? = some [I v] := by
  have e : (l.map enI)[k]? = some [I v] := by rw [List.getElem?_map, h]; rfl
  exact ⟨e, by rw [Int.toNat_natCast]; exact e⟩
theorem enI_set {l l' : List Int} {k : Nat} {v : Int} (h : l' = l.set k v) : l'.map enI = (l.map enI).set ((k : Nat) : Int).toNat [I v] := by rw [h, List.map_set, Int.toNat_natCast]
theorem enI_len {l : List Int} {N : Nat} (h : l.length = N) : (((l.map enI).length : Nat) : Int) = (N : Int) := by rw [List.length_map, h]
def stL (l : List Nat) : List Int := l.map fun v => ((v : Nat) : Int)
theorem stL_app (l : List Nat) (x : Nat) : (stL (l ++ [x])).map enI = (stL l).map enI ++ [[I ((x : Nat) : Int)]] := by simp [stL]
theorem stL_len (l : List Nat) : (stL l).length = l.length := by simp [stL]
theorem last_of {l : List Nat} (h : 0 < l.length) : ∃ l' x, l = l' ++ [x] := ⟨l.dropLast, l.getLast (fun e => by subst e; exact absurd h (Nat.lt_irrefl _)), (List.dropLast_concat_getLast _).symm⟩
theorem last_ix {l : List Nat} (x : Nat) (hl : l.length < 1000) : IntKind.i64.wrap (((((stL (l ++ [x])).map enI).length : Nat) : Int) - 1) = ((l.length : Nat) : Int) := by
  rw [enI_len (N := l.length + 1) (by rw [stL_len, List.length_append]; rfl), w64 (by omega) (by omega)]
  omega
theorem last_get (l : List Nat) (x : Nat) : ((stL (l ++ [x])).map enI)[((l.length : Nat) : Int).toNat]? = some [I ((x : Nat) : Int)] := by
  rw [stL_app, Int.toNat_natCast, List.getElem?_append_right (by rw [List.length_map, stL_len]; exact Nat.le_refl _), List.length_map, stL_len, Nat.sub_self]
  rfl
theorem last_take (l : List Nat) (x : Nat) : ((stL (l ++ [x])).map enI).take ((l.length : Nat) : Int).toNat = (stL l).map enI := by
  rw [stL_app, Int.toNat_natCast, List.take_append_of_le_length (by rw [List.length_map, stL_len]; exact Nat.le_refl _), List.take_of_length_le (by rw [List.length_map, stL_len]; exact Nat.le_refl _)]
theorem cntF_le (c : Nat → Bool) : ∀ N, cntF c N ≤ N
  | 0 => Nat.le_refl _
  | N + 1 => by
    have := cntF_le c N
    unfold cntF
    split <;> omega
theorem bes_len (W G x : Nat) : (bes W G x).length ≤ 4 := by
  have cnd : ∀ (b : Bool) (v : Int), (bif b then [v] else []).length ≤ 1 := fun b v => by cases b <;> simp
  unfold bes
  simp only [List.length_append]
  have h1 := cnd (decide (((x : Nat) : Int) ≥ (W : Int))) (IntKind.i64.wrap (((x : Nat) : Int) - (W : Int)))
  have h2 := cnd (decide (Int.tmod ((x : Nat) : Int) (W : Int) > 0)) (IntKind.i64.wrap (((x : Nat) : Int) - 1))
  have h3 := cnd (decide (Int.tmod ((x : Nat) : Int) (W : Int) < IntKind.i64.wrap ((W : Int) - 1))) (IntKind.i64.wrap (((x : Nat) : Int) + 1))
  have h4 := cnd (decide (IntKind.i64.wrap (((x : Nat) : Int) + (W : Int)) < IntKind.i64.wrap ((W : Int) * (G : Int)))) (IntKind.i64.wrap (((x : Nat) : Int) + (W : Int)))
  omega
theorem oV_nn {n : Nat → Nat} {i y : Nat} {d : Nat → Bool} (e : n y = i) (h : decide (oV n i d y < 0) = false) : d y = true := by
  rcases Bool.eq_false_or_eq_true (d y) with h1 | h1
  · exact h1
  · rw [oV_n (by omega) h1] at h
    simp at h
theorem oV_neg {n : Nat → Nat} {i y : Nat} {d : Nat → Bool} (h : decide (oV n i d y < 0) = true) : ¬ n y < i ∧ d y = false := by
  rcases Nat.lt_or_ge (n y) i with h1 | h1
  · rw [oV_lt h1] at h
    simp at h
    omega
  · refine ⟨by omega, ?_⟩
    rcases Bool.eq_false_or_eq_true (d y) with h2 | h2
    · rw [oV_y (by omega) h2] at h
      simp at h
      omega
    · exact h2
theorem some_eq (a b : UInt8) : (some a == some b) = decide (b = a) := by
  rcases decEq b a with h | h
  · rw [decide_eq_false h]
    exact beq_false_of_ne fun e => h (Option.some.inj e).symm
  · rw [h, decide_eq_true rfl]
    exact beq_self_eq_true _

theorem regs15_i (W G : Nat) (s : ByteArray) (hW : 1 ≤ W ∧ W ≤ 6) (hG : 1 ≤ G ∧ G ≤ 6) (hs : s.size = W * G) (hc : isCover (W : Int) (G : Int) s = true) (n : Nat → Nat) (hnm : Num W s n) : VCalls Tryd.prog 37 [.agg [I (W : Int), I (G : Int), S s]] (fun r M => r = .own 0 0 ∧ M = [some ⟨3, 1, 0, false, (numL n s.size).map enI⟩]) := by
  refine VB Tryd.func37 90 (fun E hE => ?_)
  have hsz0 := isCover_size hc
  have hsz : s.size ≤ 1048576 := by omega
  have a1 := True.intro
  repeat' ((first
    | (refine iAL ?_; first | refine AL.any ?_ | refine AL.any (h := POp.k Tryd.func49 (hc := isCover_i_t _ _ _ (by omega) hc)) ?_ | refine AL.any (h := POp.k Tryd.func50 (hc := bes_i' W G s hW hG hs x (Nat.lt_of_lt_of_le hxs.1 hb36))) ?_ | refine AL.U ?_ | refine AL.F ?_ | refine AL.T ?_ | refine AL.W ?_ | refine AL.nil ?_)
    | ((with_reducible show DL ..); first | refine DL.any ?_ | refine DL.U ?_ | refine DL.F ?_ | refine DL.T ?_ | refine DL.W ?_ | refine DL.nil ?_)
    | (refine iAW ?_; first | (refine AW.c0 ?_; constructor) | refine AW.dr (id := 21) 14 ?_ | refine AW.cT ?_ | refine AW.cF ?_ | (refine AW.c2 ?_ ?_ <;> (intro h; try simp only [bT, bF] at h)))
    | (refine iAL ?_; refine AL.any (h := POp.shrink (by rfl) slk45 (by rfl) (by rfl) (by rfl) (by rfl) (by rfl) (by rfl) (by rw [hix]; exact Int.natCast_nonneg _) (by rw [hix, Int.toNat_natCast, List.length_map, stL_len, List.length_append]; exact Nat.le_add_right _ _)) ?_)
    | (have _ := a1
       clear a1
       refine AW.loopD hE (fun s_ : Nat => (.any :: .ref 0 0 3 0 0 :: .any :: .own 1 0 :: .any :: .any :: .any :: .any :: .any :: .any :: .any :: .any :: .any :: .any :: .any :: .any :: .any :: .any :: I (s.size : Int) :: I (s_ : Int) :: .any :: .any :: .any :: .any :: .any :: .any :: .any :: .any :: .any :: .any :: .any :: .any :: .any :: .any :: .any :: .any :: .any :: .any :: .any :: .any :: .any :: .any :: .any :: .any :: .any :: .any :: .any :: .any :: .any :: .any :: .any :: .any :: .any :: .any :: .any :: .any :: .any :: .any :: .any :: .any :: .any :: .any :: .any :: .any :: .any :: .any :: .any :: .any :: .any :: .any :: .any :: .any :: .any :: .any :: .any :: .any :: .any :: .any :: .any :: .any :: .any :: .any :: .any :: .any :: .any :: .any :: .any :: .any :: .any :: .any :: .any :: [])) (fun s_ => [some ⟨34, 3, 0, true, [[I (W : Int), I (G : Int), S s]]⟩, some ⟨3, 1, 0, false, (filL s_ s.size).map enI⟩]) (fun s_ => s.size - s_) (fun s_ => s_ ≤ s.size) 0 (Nat.zero_le _) ?_ (by first | rfl | (rw [filL_0]; simp [enI])) ?_
       (focus ((repeat' (first | exact Wk.nil | refine Wk.any ?_ | (with_reducible refine Wk.same ?_) | refine Wk.of ?_ ?_)) <;> first | rfl | (simp [filL_len])))
       rintro j hJ
       try dsimp only at hJ
       try dsimp only
       by_cases hlt : j < s.size
       case' pos =>
         have p1 := True.intro
         have ht := str_lt hlt
         have hn := next_ix (n := s.size) hlt (by omega)
         obtain ⟨hgi, hgi'⟩ := enI_get (l := filL j s.size) (k := j) (v := 0) (by unfold filL; rw [List.getElem?_map, List.getElem?_range hlt]; simp)
         have hst := enI_set (filL_set j s.size)
         have hml := enI_len (filL_len j s.size)
       case' neg =>
         have a2 := True.intro
         have ht := str_ge hlt
         obtain rfl : j = s.size := by omega
         have hml := enI_len (filL_len s.size s.size))
    | (have _ := a2
       clear a2
       refine AW.loopD hE (fun s_ : Nat => (.any :: .ref 0 0 3 0 0 :: .any :: .own 1 0 :: .any :: .any :: .any :: .any :: .any :: .any :: .any :: .any :: .any :: .any :: .any :: .any :: .any :: .any :: .any :: .any :: .any :: .any :: .any :: .any :: .any :: .any :: .any :: I (s.size : Int) :: I (s_ : Int) :: .any :: .any :: .any :: .any :: .any :: .any :: .any :: .any :: .any :: .any :: .any :: .any :: .any :: .any :: .any :: .any :: .any :: .any :: .any :: .any :: .any :: .any :: .any :: .any :: .any :: .any :: .any :: .any :: .any :: .any :: .any :: .any :: .any :: .any :: .any :: .any :: .any :: .any :: .any :: .any :: .any :: .any :: .any :: .any :: .any :: .any :: .any :: .any :: .any :: .any :: .any :: .any :: .any :: .any :: .any :: .any :: .any :: .any :: .any :: .any :: .any :: .any :: [])) (fun s_ => [some ⟨34, 3, 0, true, [[I (W : Int), I (G : Int), S s]]⟩, some ⟨3, 1, 0, false, (oL n s_ c0 s.size).map enI⟩]) (fun s_ => s.size - s_) (fun s_ => s_ ≤ s.size) 0 (Nat.zero_le _) ?_ (by first | rfl | (rw [filL_N n])) ?_
       (focus ((repeat' (first | exact Wk.nil | refine Wk.any ?_ | (with_reducible refine Wk.same ?_) | refine Wk.of ?_ ?_)) <;> first | rfl | (simp [filL_len])))
       rintro i hJ
       try dsimp only at hJ
       try dsimp only
       by_cases hlt : i < s.size
       case' pos =>
         have p2 := True.intro
         have ht := str_lt hlt
         have hn := next_ix (n := s.size) hlt (by omega)
         have hml := enI_len (oL_len n i c0 s.size)
         obtain ⟨hgi, hgi'⟩ := enI_get (oL_get (n := n) (i := i) (c := c0) hlt)
         rcases Nat.lt_or_ge (n i) i with h1 | h1
         case' inl =>
           have h2 : decide (oV n i c0 i ≥ 0) = true := by rw [oV_lt h1]; simp
           have hsk := oL_skip hnm hlt h1
           have k2 := True.intro
         case' inr =>
           rw [oV_n (by omega) rfl] at hgi hgi'
           have h2 : decide ((-1 : Int) ≥ 0) = false := by decide
           have hst := enI_set (oL_set (n := n) (i := i) (c := c0) (N := s.size) (k := i) (by omega))
           have a3 := True.intro
       case' neg =>
         have q2 := True.intro
         have ht := str_ge hlt
         obtain rfl : i = s.size := by omega
         have hE9 := oL_fin hnm)
    | (have _ := a3
       clear a3
       refine AW.loopD hE (fun s_ : (Nat → Bool) × List Nat × Nat => (.any :: .ref 0 0 3 0 0 :: .any :: .own 1 0 :: .any :: I (i : Int) :: .own 2 s_.2.2 :: .any :: .any :: .any :: .any :: .any :: .any :: .any :: .any :: .any :: .any :: .any :: .any :: .any :: .any :: .any :: .any :: .any :: .any :: .any :: .any :: I (s.size : Int) :: I (i : Int) :: .any :: .any :: .any :: .any :: .any :: .any :: .any :: .any :: .any :: .any :: .any :: .any :: .any :: .any :: .any :: .any :: .any :: .any :: .any :: .any :: .any :: .any :: .any :: .any :: .any :: .any :: .any :: .any :: .any :: .any :: .any :: .any :: .any :: .any :: .any :: .any :: .any :: .any :: .any :: .any :: .any :: .any :: .any :: .any :: .any :: .any :: .any :: .any :: .any :: .any :: .any :: .any :: .any :: .any :: .any :: .any :: .any :: .any :: .any :: .any :: .any :: .any :: [])) (fun s_ => [some ⟨34, 3, 0, true, [[I (W : Int), I (G : Int), S s]]⟩, some ⟨3, 1, 0, false, (oL n i s_.1 s.size).map enI⟩, some ⟨3, 1, s_.2.2, false, (stL (s_.2.1)).map enI⟩]) (fun s_ => 2 * cntF s_.1 s.size + s_.2.1.length) (fun s_ => Fl W s n i s_.1 s_.2.1 ∧ 2 * cntF s_.1 s.size + s_.2.1.length ≤ 2 * s.size) (upd c0 i true, [i], 0) ⟨Fl.start hnm hlt (by omega), by have := cntF_upd (c := c0) (y := i) rfl hlt; have := cntF_le c0 s.size; show 2 * cntF (upd c0 i true) s.size + 1 ≤ 2 * s.size; omega⟩ ?_ (by first | rfl | (dsimp only; rw [hst] <;> rfl)) ?_
       (focus ((repeat' (first | exact Wk.nil | refine Wk.any ?_ | (with_reducible refine Wk.same ?_) | refine Wk.of ?_ ?_)) <;> first | rfl | (simp [stL])))
       rintro ⟨c, st, u⟩ hF
       try dsimp only at hF
       try dsimp only
       by_cases hlt : 0 < st.length
       case' pos =>
         have a4 := True.intro
         obtain ⟨st', x, rfl⟩ := last_of hlt
         have hll : st'.length < 1000 := by have h1 := hF.2; rw [List.length_append] at h1; omega
         have ht : decide (((((stL (st' ++ [x])).map enI).length : Nat) : Int) > 0) = true := by rw [enI_len (stL_len _)]; simp
         have hix := last_ix x hll
         have hml : ((((stL (st' ++ [x])).map enI).length : Nat) : Int) = ((st'.length + 1 : Nat) : Int) := enI_len (by rw [stL_len, List.length_append]; rfl)
         have hgt : ((stL (st' ++ [x])).map enI)[(IntKind.i64.wrap (((((stL (st' ++ [x])).map enI).length : Nat) : Int) - 1)).toNat]? = some [I ((x : Nat) : Int)] := by rw [hix]; exact last_get st' x
         have htk := last_take st' x
         have hxs := hF.1.sub x (List.mem_append_right _ (List.mem_singleton.2 rfl))
         have hclB : Clo (.ro 1 ((bes W G x).map enI)) := clo_list (fun m => clo_cons (clo_c _) clo_nil)
         have hb36 : s.size ≤ 36 := hsz0.2
       case' neg =>
         have q3 := True.intro
         obtain rfl : st = [] := List.eq_nil_of_length_eq_zero (by omega)
         have ht : decide (((((stL []).map enI).length : Nat) : Int) > 0) = false := by decide
         have hdn := hF.1.done hnm (by assumption)
         have hn := next_ix (i := i) (n := s.size) (by assumption) (by omega))
    | (have _ := a4
       clear a4
       refine AW.loopD hE (fun s_ : (Nat → Bool) × List Nat × Nat × Nat => (.any :: .ref 0 0 3 0 0 :: .any :: .own 1 0 :: .any :: I (i : Int) :: .own 2 s_.2.2.2 :: I (x : Int) :: .any :: .any :: .any :: .any :: .any :: .any :: .any :: .any :: .any :: .any :: .any :: .any :: .any :: .any :: .any :: .any :: .any :: .any :: .any :: I (s.size : Int) :: I (i : Int) :: .any :: .any :: .any :: .any :: .any :: .any :: .any :: .any :: .any :: .any :: .any :: .any :: .any :: .any :: .any :: .any :: .any :: .any :: .any :: .any :: .any :: .any :: .any :: .any :: .any :: .any :: .any :: .any :: .any :: .ro 1 ((bes W G x).map enI) :: I ((bes W G x).map enI).length :: I (s_.2.2.1 : Int) :: .any :: .any :: .any :: .any :: .any :: .any :: .any :: .any :: .any :: .any :: .any :: .any :: .any :: .any :: .any :: .any :: .any :: .any :: .any :: .any :: .any :: .any :: .any :: .any :: .any :: .any :: .any :: .any :: .any :: .any :: [])) (fun s_ => [some ⟨34, 3, 0, true, [[I (W : Int), I (G : Int), S s]]⟩, some ⟨3, 1, 0, false, (oL n i s_.1 s.size).map enI⟩, some ⟨3, 1, s_.2.2.2, false, (stL (s_.2.1)).map enI⟩]) (fun s_ => (bes W G x).length - s_.2.2.1) (fun s_ => Fx W G s n i x s_.1 s_.2.1 s_.2.2.1 ∧ 2 * cntF s_.1 s.size + s_.2.1.length < 2 * cntF c s.size + (st' ++ [x]).length ∧ s_.2.2.1 ≤ (bes W G x).length) (c, st', 0, u + 1) ⟨hF.1.open, by rw [List.length_append]; exact Nat.lt_succ_self _, Nat.zero_le _⟩ ?_ (by first | rfl | (dsimp only; rw [hix, htk] <;> rfl)) ?_
       (focus (exact wkI))
       rintro ⟨d, tt, q, v⟩ hD
       try dsimp only at hD
       try dsimp only
       by_cases hlt : q < (bes W G x).length
       case' pos =>
         have p4 := True.intro
         obtain ⟨z, hz⟩ : ∃ z, (bes W G x)[q]? = some z := ⟨_, List.getElem?_eq_getElem hlt⟩
         have hg := map_get (f := enI) hz
         have ht := lt_true (f := enI) hlt
         obtain ⟨y, rfl, hys, hnx⟩ := (bes_get hW hG hs hxs.1).1 z (List.mem_of_getElem? hz)
         have hn := next_ix hlt (by have := bes_len W G x; omega)
         have hml := enI_len (oL_len n i d s.size)
         have hll : tt.length < 1000 := by have h1 := hF.2; omega
         have hmt := enI_len (stL_len tt)
         obtain ⟨hgy, hgy'⟩ := enI_get (oL_get (n := n) (i := i) (c := d) hys)
         obtain ⟨bi, hbi, hbi'⟩ := str_get (s := s) (i := i) (by assumption)
         obtain ⟨bk, hbk, hbk'⟩ := str_get (s := s) (i := y) (by assumption)
         have hsx : s[x]? = s[i]? := Rch.same (by have h1 := hnm.rch x hxs.1; rw [hD.1.cn x hxs.1 hD.1.xs.2] at h1; exact h1)
         have hed : edg W s x y = decide (bk = bi) := by unfold edg; rw [hsx, hbi, hbk, hnx, some_eq]; rfl
         have hu8 := u8_eq bk bi
         rcases Bool.eq_false_or_eq_true (decide (oV n i d y < 0)) with h1 | h1
         case' inr =>
           have hP := hD.1.no hz (fun e => oV_nn (by rw [← hnm.eq x y hxs.1 hys e]; exact hD.1.cn x hxs.1 hD.1.xs.2) h1)
           have k4 := True.intro
         case' inl =>
           rcases Bool.eq_false_or_eq_true (decide (bk = bi)) with h2 | h2
           case' inr =>
             rw [h2] at hu8
             have hP := hD.1.no hz (fun e => absurd e (by rw [hed, h2]; simp))
             have k4 := True.intro
           case' inl =>
             rw [h2] at hu8
             have hny := oV_neg h1
             have hP := hD.1.yes hnm hz hys (by rw [hed, h2])
             have hst := enI_set (oL_set (n := n) (i := i) (c := d) (N := s.size) (k := y) hny.1)
             have hcn := cntF_upd hny.2 hys
             have hap := stL_app tt y
             have hal : (tt ++ [y]).length = tt.length + 1 := List.length_append
             have k5 := True.intro
       case' neg =>
         have q4 := True.intro
         have ht := lt_false (f := enI) hlt
         have hq : q = (bes W G x).length := by have := hD.2.2; omega
         subst hq
         have hP := Fx.fin hW hG hs hD.1)
    | with_reducible refine ifP ?_
    | with_reducible refine ifN ?_) <;> (try dsimp only))
  all_goals first
    | (have _ := p1; refine ⟨j + 1, _, hlt, by omega, ?_, (by rw [hst] <;> rfl), ?_, ?_⟩; (focus (exact wkN)); (focus (exact fitsA)); (focus (exact fitsM_b (one_row (by repeat' (first | exact Fits.nil _ | refine Fits.cons ?_ ?_ | exact Fits.c _ _))) (fits_dcl (DCl.map (fun _ => rfl))))))
    | (have _ := k2; refine ⟨i + 1, _, hlt, by omega, ?_, (by rw [hsk] <;> rfl), ?_, ?_⟩; (focus (exact wkN)); (focus (exact fitsA)); (focus (exact fitsM_b (one_row (by repeat' (first | exact Fits.nil _ | refine Fits.cons ?_ ?_ | exact Fits.c _ _))) (fits_dcl (DCl.map (fun _ => rfl))))))
    | (have _ := k4; refine ⟨(d, tt, q + 1, v), _, ⟨hP, hD.2.1, hlt⟩, by (show (bes W G x).length - (q + 1) < (bes W G x).length - q; omega), ?_, rfl, ?_, ?_⟩; (focus (exact wkN)); (focus (exact fitsA)); (focus (exact fitsM_b (one_row (by repeat' (first | exact Fits.nil _ | refine Fits.cons ?_ ?_ | exact Fits.c _ _))) (fitsM_d (DCl.map (fun _ => rfl)) (fits_dcl (DCl.map (fun _ => rfl)))))))
    | (have _ := k5; refine ⟨(upd d y true, tt ++ [y], q + 1, v + 1), _, ⟨hP, by dsimp only; have := hD.2.1; omega, hlt⟩, by (show (bes W G x).length - (q + 1) < (bes W G x).length - q; omega), ?_, (by dsimp only; rw [hst, hap] <;> rfl), ?_, ?_⟩; (focus (exact wkN)); (focus (exact fitsA)); (focus (exact fitsM_b (one_row (by repeat' (first | exact Fits.nil _ | refine Fits.cons ?_ ?_ | exact Fits.c _ _))) (fitsM_d (DCl.map (fun _ => rfl)) (fits_dcl (DCl.map (fun _ => rfl)))))))
    | (have _ := q4; refine ⟨(d, tt, v), _, ⟨hP, by have h1 := hD.2.1; have h2 := hF.2; dsimp only; omega⟩, by exact hD.2.1, ?_, rfl, ?_, ?_⟩; (focus (exact wkN)); (focus (exact fitsA)); (focus (exact fitsM_b (one_row (by repeat' (first | exact Fits.nil _ | refine Fits.cons ?_ ?_ | exact Fits.c _ _))) (fitsM_d (DCl.map (fun _ => rfl)) (fits_dcl (DCl.map (fun _ => rfl)))))))
    | (have _ := q3; refine ⟨i + 1, _, (by assumption), by omega, ?_, (by rw [hdn] <;> rfl), ?_, ?_⟩; (focus (exact wkN)); (focus (exact fitsA)); (focus (exact fitsM_b (one_row (by repeat' (first | exact Fits.nil _ | refine Fits.cons ?_ ?_ | exact Fits.c _ _))) (fits_dcl (DCl.map (fun _ => rfl))))))
    | (have _ := q2; rw [hE9]; exact Fin.r1 [1] rfl (RV.tmp (by rfl)) ⟨rfl, rfl⟩)

theorem regs15_i' (W G : Nat) (s : ByteArray) (hW : 1 ≤ W ∧ W ≤ 6) (hG : 1 ≤ G ∧ G ≤ 6) (hs : s.size = W * G) (hc : isCover (W : Int) (G : Int) s = true) (n : Nat → Nat) (hnm : Num W s n) : VCalls Tryd.prog 37 [.agg [I (W : Int), I (G : Int), S s]] (fun r M => r = .ro 1 ((numL n s.size).map enI) ∧ M = []) := VCalls.frz (regs15_i W G s hW hG hs hc n hnm) vwlT
end Go.Proofs.YtljdhhkebebhfaaDoor.Abs
