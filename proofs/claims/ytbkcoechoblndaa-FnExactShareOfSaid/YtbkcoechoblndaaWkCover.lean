/- The walks of IsCover and ShareOf. -/
import Derived.Test.YtbkcoechoblndaaWkFacts
import Derived.Test.YtbkcoechoblndaaWkTo
import Derived.Test.YtbkcoechoblndaaWkEq
import Derived.Test.YtbkcoechoblndaaWkLine
import Derived.WalkKit
import Derived.Lib.Bytealg
import Derived.Laws.Externs
namespace Go.Proofs.Ytbkcoechoblndaa.Abs
open Go.Proofs Go.RowKit
set_option linter.unusedVariables false
set_option linter.unusedSimpArgs false
open Go.Lib (countByte run_countString)
def covAt (s : ByteArray) (i : Nat) : Bool := match s[i]? with
  | none => false
  | some b => !(decide (((b.toNat : Nat) : Int) < 97) || decide (((b.toNat : Nat) : Int) > 122))
def covTo (s : ByteArray) (n : Nat) : Bool := (List.range n).all (covAt s)
theorem covTo_succ (s : ByteArray) (i : Nat) : covTo s (i + 1) = (covTo s i && covAt s i) := by simp [covTo, List.range_succ]
theorem covTo_not {s : ByteArray} {i n : Nat} (h : covAt s i = false) (hi : i < n) : covTo s n = false := by
  simp only [covTo, List.all_eq_false, List.mem_range]
  exact ⟨i, hi, by simp [h]⟩
def isCover (w g : Int) (s : ByteArray) : Bool := inr w 1 6 && inr g 1 6 && ((s.size : Int) == IntKind.i64.wrap (w * g)) && covTo s s.size
theorem isCover_size {w g : Int} {s : ByteArray} (hc : isCover w g s = true) : 1 ≤ s.size ∧ s.size ≤ 36 := by
  simp only [isCover, inr, Bool.and_eq_true, decide_eq_true_eq, beq_iff_eq] at hc
  obtain ⟨⟨⟨hw, hh⟩, hs⟩, _⟩ := hc
  have h1 : 1 * 1 ≤ w * g := Int.mul_le_mul hw.1 hh.1 (by omega) (by omega)
  have h2 : w * g ≤ 6 * 6 := Int.mul_le_mul hw.2 hh.2 (by omega) (by omega)
  rw [w64 (by omega) (by omega)] at hs
  omega
theorem str_get {s : ByteArray} {i : Nat} (h : i < s.size) : ∃ b : UInt8, s[i]? = some b ∧ s[((i : Nat) : Int).toNat]? = some b := ⟨s[i], by simp [h], by rw [Int.toNat_natCast]; simp [h]⟩
theorem covAt_some {s : ByteArray} {i : Nat} {b : UInt8} (h : s[i]? = some b) : covAt s i = !(decide (((b.toNat : Nat) : Int) < 97) || decide (((b.toNat : Nat) : Int) > 122)) := by simp [covAt, h]
theorem str_lt {s : ByteArray} {i : Nat} (h : i < s.size) : decide ((i : Int) < (s.size : Int)) = true := by simp; omega
theorem str_ge {s : ByteArray} {i : Nat} (h : ¬ i < s.size) : decide ((i : Int) < (s.size : Int)) = false := by simp; omega
def cntB (s : ByteArray) (c : UInt8) (i : Nat) : Nat := (s.data.toList.take i).count c
theorem str_data {s : ByteArray} {i : Nat} {b : UInt8} (h : s[i]? = some b) : s.data.toList[i]? = some b := by
  by_cases hi : i < s.size
  · have e : s[i]? = some s[i] := getElem?_pos s i hi
    rw [e] at h
    have hi2 : i < s.data.size := hi
    rw [Array.getElem?_toList, Array.getElem?_eq_getElem hi2]
    exact h
  · have e : s[i]? = none := getElem?_neg s i hi
    rw [e] at h
    cases h
theorem cntB_succ {s : ByteArray} {c b : UInt8} {i : Nat} (h : s[i]? = some b) : cntB s c (i + 1) = cntB s c i + if b = c then 1 else 0 := by
  rw [cntB, take_succ_of (str_data h), List.count_append]
  by_cases e : b = c <;> simp [cntB, e]
theorem cntB_le (s : ByteArray) (c : UInt8) (i : Nat) : cntB s c i ≤ i := Nat.le_trans List.count_le_length (by rw [List.length_take]; omega)
theorem cntB_all (s : ByteArray) (c : UInt8) : cntB s c s.size = Lib.countByte s.data.toList c := by
  have e : s.size = s.data.toList.length := by rw [Array.length_toList]; rfl
  rw [cntB, Lib.countByte, e, List.take_length]
theorem u8_eq (a b : UInt8) : (((a.toNat : Nat) : Int) == ((b.toNat : Nat) : Int)) = decide (a = b) := by
  by_cases e : a = b
  · simp [e]
  · have : a.toNat ≠ b.toNat := fun h => e (UInt8.toNat_inj.1 h)
    simp [e]; omega
def shareOf (w g : Int) (s t : ByteArray) : Int := if isCover w g s && (t.size == 1) then IntKind.i64.wrap ((IntKind.i64.wrap (100 * (cntB s (t.data.toList.getD 0 0) s.size : Nat))).tdiv s.size) else 0
theorem shareOf_n {w g : Int} {s t : ByteArray} (h : isCover w g s = false ∨ t.size ≠ 1) : shareOf w g s t = 0 := by
  unfold shareOf
  rw [if_neg]
  rcases h with h | h <;> simp [h]
theorem shareOf_y {w g : Int} {s : ByteArray} {c : UInt8} (h : isCover w g s = true) : shareOf w g s ⟨#[c]⟩ = IntKind.i64.wrap ((IntKind.i64.wrap (100 * (cntB s c s.size : Nat))).tdiv s.size) := by
  unfold shareOf
  rw [if_pos]
  · rfl
  · rw [h]; rfl
theorem one_byte {t : ByteArray} (h : t.size = 1) : ∃ c : UInt8, t = ⟨#[c]⟩ := by
  cases t with
  | mk d =>
    have hd : d.size = 1 := h
    refine ⟨d[0], ?_⟩
    congr 1
    apply Array.ext
    · simp [hd]
    · intro i h1 h2
      have : i = 0 := by omega
      subst this
      simp

set_option maxRecDepth 100000 in
set_option maxHeartbeats 2000000 in
theorem isCover_s (w g : Int) (s : ByteArray) (hs : s.size ≤ 1048576) : VCalls Try.prog 35 [.agg [I w, I g, S s]] (fun r M => r = B (isCover w g s) ∧ M = []) := by
  refine VCalls.bodyE Try.func35 rfl 43 rfl (fun E hE => ?_)
  simp only [List.reduceReplicate, List.cons_append, List.nil_append]
  repeat' ((first
    | refine AW.seq ?_
    | refine AW.region ?_
    | refine AW.skip ?_
    | refine AL.q TT_ok rfl (by rfl) ?_
    | refine AL.step rfl ?_
    | refine OpA.q TT_ok (by rfl) ?_
    | (refine OpA.quiet (QOp.pickT (by rfl) (by rfl) ?_ (by rfl)) ?_; focus (first | (with_reducible rfl) | (with_reducible_and_instances assumption) | (simp only [Bool.not_eq_true', Bool.not_eq_false']; with_reducible_and_instances assumption)))
    | (refine OpA.quiet (QOp.pickF (by rfl) (by rfl) ?_ (by rfl)) ?_; focus (first | (with_reducible rfl) | (with_reducible_and_instances assumption) | (simp only [Bool.not_eq_true', Bool.not_eq_false']; with_reducible_and_instances assumption)))
    | refine OpA.quiet (QOp.ld1_ro (by rfl) (by rfl) (by assumption) (by first | exact ldk2 | exact ldk3 | exact ldk4 | exact ldk5 | exact ldk6 | exact ldk7 | exact ldk8 | exact ldk9 | exact ldk11 | exact ldk12 | exact ldk13 | exact ldk14 | exact ldk15 | exact ldk17 | exact ldk18 | exact ldk19 | exact ldk21 | exact ldk22 | exact ldk26 | exact ldk32 | exact ldk36 | exact ldk39 | exact ldk68 | exact ldk74 | exact ldk76) (by rfl)) ?_
    | refine OpA.quiet (QOp.ldr_ro (by rfl) (by rfl) (by assumption) (by first | exact ldk2 | exact ldk3 | exact ldk4 | exact ldk5 | exact ldk6 | exact ldk7 | exact ldk8 | exact ldk9 | exact ldk11 | exact ldk12 | exact ldk13 | exact ldk14 | exact ldk15 | exact ldk17 | exact ldk18 | exact ldk19 | exact ldk21 | exact ldk22 | exact ldk26 | exact ldk32 | exact ldk36 | exact ldk39 | exact ldk68 | exact ldk74 | exact ldk76) (Nat.le_of_ble_eq_true (by rfl))) ?_
    | refine OpA.quiet (QOp.len_own (by rfl) (by first | exact slk32 | exact slk36 | exact slk39) (by rfl) (by rfl) (by rfl) (by rfl)) ?_
    | refine OpA.quiet (QOp.sEq (by rfl) (by rfl) (by rfl) (by first | exact flk26.1) (by rfl) (by rfl) (by rfl) (by rfl) (by rfl) (by rfl) (by rfl) (by rfl)) ?_
    | refine OpA.quiet (QOp.index_str (by rfl) (by first | exact kds9 | exact kds11) (by rfl) (by rfl) (by first | assumption | omega) (by assumption)) ?_
    | refine OpA.box (by rfl) (by rfl) (by rfl) ?_
    | refine OpA.pcall (by rfl) Try.func75 rfl rfl (by rfl) (by first | exact clo_all (by rfl) | (intro x hx; simp only [List.mem_cons, List.not_mem_nil, or_false] at hx; rcases hx with rfl | rfl | rfl | rfl | rfl | rfl | rfl | rfl <;> first | exact clo_of (by rfl) | exact clo_fn _ | assumption)) (inr_s _ _ _) (by first | exact clo_of (by rfl) | assumption) ?_
    | (refine AW.loopD hE (fun i : Nat => [.agg [I w, I g, S s], .ref 0 0 3 0 0, .any, I i, .any, .any, .any, .any, .any, .any, .any, .any, .any, .any, .any, .any, .any, .any, .any, .any, .any, .any, .any, .any, .any, .any, .any, .any, .any, .any, .any, .any, .any, .any, .any, .any, .any, .any, .any, .any, .any, .any, .any, .any]) (fun i => [some ⟨26, 3, 0, true, [[I w, I g, S s]]⟩]) (fun i => s.size - i) (fun i => i ≤ s.size ∧ covTo s i = true) 0 ⟨Nat.zero_le _, by simp [covTo]⟩ ?_ (by first | rfl | (simp [fil_zero]; done)) ?_)
    | refine OpA.quiet (QOp.pickAnd (by rfl) (by rfl) (by rfl) (by rfl) (by rfl)) ?_
    | refine OpA.quiet (QOp.pickOr (by rfl) (by rfl) (by rfl) (by rfl) (by rfl)) ?_
    | refine AL.guardU (by rfl) (by rfl) (by rfl) (by rfl) ?_
    | refine AL.gF (by rfl) (by rfl) (by rfl) (by rfl) (by first | rfl | assumption) ?_
    | refine AL.gT (by rfl) (by rfl) (by rfl) (by rfl) (by first | rfl | assumption) ?_
    | refine AL.guardW (by rfl) (by rfl) (by rfl) (by rfl) (fun h => by (try rw [h]); first | exact OpA.quietW (QOp.quietA TT_ok (by rfl)) | exact OpA.pcall (by rfl) Try.func75 rfl rfl (by rfl) (by first | exact clo_all (by rfl) | (intro x hx; simp only [List.mem_cons, List.not_mem_nil, or_false] at hx; rcases hx with rfl | rfl | rfl | rfl | rfl | rfl | rfl | rfl <;> first | exact clo_of (by rfl) | exact clo_fn _ | assumption)) (inr_s _ _ _) (by first | exact clo_of (by rfl) | assumption) ⟨by rfl, rfl⟩ | exact OpA.quietW (QOp.ld1_ro (by rfl) (by rfl) (by assumption) (by first | exact ldk2 | exact ldk3 | exact ldk4 | exact ldk5 | exact ldk6 | exact ldk7 | exact ldk8 | exact ldk9 | exact ldk11 | exact ldk12 | exact ldk13 | exact ldk14 | exact ldk15 | exact ldk17 | exact ldk18 | exact ldk19 | exact ldk21 | exact ldk22 | exact ldk26 | exact ldk32 | exact ldk36 | exact ldk39 | exact ldk68 | exact ldk74 | exact ldk76) (by rfl)) | exact OpA.quietW (QOp.ldr_ro (by rfl) (by rfl) (by assumption) (by first | exact ldk2 | exact ldk3 | exact ldk4 | exact ldk5 | exact ldk6 | exact ldk7 | exact ldk8 | exact ldk9 | exact ldk11 | exact ldk12 | exact ldk13 | exact ldk14 | exact ldk15 | exact ldk17 | exact ldk18 | exact ldk19 | exact ldk21 | exact ldk22 | exact ldk26 | exact ldk32 | exact ldk36 | exact ldk39 | exact ldk68 | exact ldk74 | exact ldk76) (Nat.le_of_ble_eq_true (by rfl))) | exact OpA.quietW (QOp.len_own (by rfl) (by first | exact slk32 | exact slk36 | exact slk39) (by rfl) (by rfl) (by rfl) (by rfl)) | exact OpA.quietW (QOp.sEq (by rfl) (by rfl) (by rfl) (by first | exact flk26.1) (by rfl) (by rfl) (by rfl) (by rfl) (by rfl) (by rfl) (by rfl) (by rfl)) | exact OpA.quietW (QOp.index_str (by rfl) (by first | exact kds9 | exact kds11) (by rfl) (by rfl) (by first | assumption | omega) (by assumption)) | exact OpA.quietW (QOp.pickAnd (by rfl) (by rfl) (by rfl) (by rfl) (by rfl)) | exact OpA.quietW (QOp.pickOr (by rfl) (by rfl) (by rfl) (by rfl) (by rfl))) ?_
    | (refine AL.guardT (by rfl) (by rfl) (by rfl) (by rfl) (fun h => ?_) ?_; rotate_left; focus (intro h; (try simp only [Bool.not_eq_true', Bool.not_eq_false'] at h); first | (cases h; done) | exact clash (by with_reducible_and_instances assumption) h | exact clash h (by with_reducible_and_instances assumption) | exact absurd h (by decide) | (refine absurd h ?_; simp; done)))
    | (refine AL.guardT (by rfl) (by rfl) (by rfl) (by rfl) ?_ (fun h => ?_); focus (intro h; (try simp only [Bool.not_eq_true', Bool.not_eq_false'] at h); first | (cases h; done) | exact clash (by with_reducible_and_instances assumption) h | exact clash h (by with_reducible_and_instances assumption) | exact absurd h (by decide) | (refine absurd h ?_; simp; done)))
    | (refine AL.guardT (by rfl) (by rfl) (by rfl) (by rfl) ?_ ?_ <;> (intro h; try simp only [Bool.not_eq_true', Bool.not_eq_false'] at h))
    | (refine AL.guardF (by rfl) (by rfl) (by rfl) (by rfl) (fun h => ?_) ?_; rotate_left; focus (intro h; (try simp only [Bool.not_eq_true', Bool.not_eq_false'] at h); first | (cases h; done) | exact clash (by with_reducible_and_instances assumption) h | exact clash h (by with_reducible_and_instances assumption) | exact absurd h (by decide) | (refine absurd h ?_; simp; done)))
    | (refine AL.guardF (by rfl) (by rfl) (by rfl) (by rfl) ?_ (fun h => ?_); focus (intro h; (try simp only [Bool.not_eq_true', Bool.not_eq_false'] at h); first | (cases h; done) | exact clash (by with_reducible_and_instances assumption) h | exact clash h (by with_reducible_and_instances assumption) | exact absurd h (by decide) | (refine absurd h ?_; simp; done)))
    | (refine AL.guardF (by rfl) (by rfl) (by rfl) (by rfl) ?_ ?_ <;> (intro h; try simp only [Bool.not_eq_true', Bool.not_eq_false'] at h))
    | (refine AW.cond (by rfl) (fun h => ?_) ?_; rotate_left; focus (intro h; (try simp only [Bool.not_eq_true', Bool.not_eq_false'] at h); first | (cases h; done) | exact clash (by with_reducible_and_instances assumption) h | exact clash h (by with_reducible_and_instances assumption) | exact absurd h (by decide) | (refine absurd h ?_; simp; done)))
    | (refine AW.cond (by rfl) ?_ (fun h => ?_); focus (intro h; (try simp only [Bool.not_eq_true', Bool.not_eq_false'] at h); first | (cases h; done) | exact clash (by with_reducible_and_instances assumption) h | exact clash h (by with_reducible_and_instances assumption) | exact absurd h (by decide) | (refine absurd h ?_; simp; done)))
    | (refine AW.cond (by rfl) ?_ ?_ <;> (intro h; try simp only [Bool.not_eq_true', Bool.not_eq_false'] at h))
    | refine AW.block ?_
    | refine AW.exit ?_
    | refine AL.nil ?_
    | refine AW.ret ?_) <;> (try dsimp only [dput, List.set, cond_true, cond_false, Nat.zero_add, Nat.add_zero, Nat.reduceAdd, splice, List.take, List.drop, List.length, List.nil_append, List.cons_append, TPoint.en, TSegment.en, TBox.en, TFeature.en, TMeet.en, TPlace.en, TCover.en, TLabel.en, TPiece.en, TLevel.en, TChart.en, TReason.en, TEdit.en, TEntry.en, TEdition.en, TListing.en, TAtlas.en, TEvent.en, TWindow.en]))
  · exact Fin.one rfl (RV.tmp (by rfl)) (clo_c _) ⟨by simp only [isCover]; revert h; cases inr w 1 6 <;> cases inr g 1 6 <;> simp <;> simp_all, rfl⟩
  · (repeat' (first | exact Wk.nil | refine Wk.any ?_ | (with_reducible refine Wk.same ?_) | refine Wk.of ?_ ?_)) <;> first | rfl | (simp)
  · intro i hi
    by_cases hlt : i < s.size
    · skip
      obtain ⟨b, hb, hb'⟩ := str_get hlt
      have ht := str_lt hlt
      have hn := next_ix hlt (by omega)
      have hc := covAt_some hb
      have hsu := covTo_succ s i
      repeat' ((first
        | refine AW.seq ?_
        | refine AW.region ?_
        | refine AW.skip ?_
        | refine AL.q TT_ok rfl (by rfl) ?_
        | refine AL.step rfl ?_
        | refine OpA.q TT_ok (by rfl) ?_
        | (refine OpA.quiet (QOp.pickT (by rfl) (by rfl) ?_ (by rfl)) ?_; focus (first | (with_reducible rfl) | (with_reducible_and_instances assumption) | (simp only [Bool.not_eq_true', Bool.not_eq_false']; with_reducible_and_instances assumption)))
        | (refine OpA.quiet (QOp.pickF (by rfl) (by rfl) ?_ (by rfl)) ?_; focus (first | (with_reducible rfl) | (with_reducible_and_instances assumption) | (simp only [Bool.not_eq_true', Bool.not_eq_false']; with_reducible_and_instances assumption)))
        | refine OpA.quiet (QOp.ld1_ro (by rfl) (by rfl) (by assumption) (by first | exact ldk2 | exact ldk3 | exact ldk4 | exact ldk5 | exact ldk6 | exact ldk7 | exact ldk8 | exact ldk9 | exact ldk11 | exact ldk12 | exact ldk13 | exact ldk14 | exact ldk15 | exact ldk17 | exact ldk18 | exact ldk19 | exact ldk21 | exact ldk22 | exact ldk26 | exact ldk32 | exact ldk36 | exact ldk39 | exact ldk68 | exact ldk74 | exact ldk76) (by rfl)) ?_
        | refine OpA.quiet (QOp.ldr_ro (by rfl) (by rfl) (by assumption) (by first | exact ldk2 | exact ldk3 | exact ldk4 | exact ldk5 | exact ldk6 | exact ldk7 | exact ldk8 | exact ldk9 | exact ldk11 | exact ldk12 | exact ldk13 | exact ldk14 | exact ldk15 | exact ldk17 | exact ldk18 | exact ldk19 | exact ldk21 | exact ldk22 | exact ldk26 | exact ldk32 | exact ldk36 | exact ldk39 | exact ldk68 | exact ldk74 | exact ldk76) (Nat.le_of_ble_eq_true (by rfl))) ?_
        | refine OpA.quiet (QOp.len_own (by rfl) (by first | exact slk32 | exact slk36 | exact slk39) (by rfl) (by rfl) (by rfl) (by rfl)) ?_
        | refine OpA.quiet (QOp.sEq (by rfl) (by rfl) (by rfl) (by first | exact flk26.1) (by rfl) (by rfl) (by rfl) (by rfl) (by rfl) (by rfl) (by rfl) (by rfl)) ?_
        | refine OpA.quiet (QOp.index_str (by rfl) (by first | exact kds9 | exact kds11) (by rfl) (by rfl) (by first | assumption | omega) (by assumption)) ?_
        | refine OpA.box (by rfl) (by rfl) (by rfl) ?_
        | refine OpA.pcall (by rfl) Try.func75 rfl rfl (by rfl) (by first | exact clo_all (by rfl) | (intro x hx; simp only [List.mem_cons, List.not_mem_nil, or_false] at hx; rcases hx with rfl | rfl | rfl | rfl | rfl | rfl | rfl | rfl <;> first | exact clo_of (by rfl) | exact clo_fn _ | assumption)) (inr_s _ _ _) (by first | exact clo_of (by rfl) | assumption) ?_
        | refine OpA.quiet (QOp.pickAnd (by rfl) (by rfl) (by rfl) (by rfl) (by rfl)) ?_
        | refine OpA.quiet (QOp.pickOr (by rfl) (by rfl) (by rfl) (by rfl) (by rfl)) ?_
        | refine AL.guardU (by rfl) (by rfl) (by rfl) (by rfl) ?_
        | refine AL.gF (by rfl) (by rfl) (by rfl) (by rfl) (by first | rfl | assumption) ?_
        | refine AL.gT (by rfl) (by rfl) (by rfl) (by rfl) (by first | rfl | assumption) ?_
        | refine AL.guardW (by rfl) (by rfl) (by rfl) (by rfl) (fun h => by (try rw [h]); first | exact OpA.quietW (QOp.quietA TT_ok (by rfl)) | exact OpA.pcall (by rfl) Try.func75 rfl rfl (by rfl) (by first | exact clo_all (by rfl) | (intro x hx; simp only [List.mem_cons, List.not_mem_nil, or_false] at hx; rcases hx with rfl | rfl | rfl | rfl | rfl | rfl | rfl | rfl <;> first | exact clo_of (by rfl) | exact clo_fn _ | assumption)) (inr_s _ _ _) (by first | exact clo_of (by rfl) | assumption) ⟨by rfl, rfl⟩ | exact OpA.quietW (QOp.ld1_ro (by rfl) (by rfl) (by assumption) (by first | exact ldk2 | exact ldk3 | exact ldk4 | exact ldk5 | exact ldk6 | exact ldk7 | exact ldk8 | exact ldk9 | exact ldk11 | exact ldk12 | exact ldk13 | exact ldk14 | exact ldk15 | exact ldk17 | exact ldk18 | exact ldk19 | exact ldk21 | exact ldk22 | exact ldk26 | exact ldk32 | exact ldk36 | exact ldk39 | exact ldk68 | exact ldk74 | exact ldk76) (by rfl)) | exact OpA.quietW (QOp.ldr_ro (by rfl) (by rfl) (by assumption) (by first | exact ldk2 | exact ldk3 | exact ldk4 | exact ldk5 | exact ldk6 | exact ldk7 | exact ldk8 | exact ldk9 | exact ldk11 | exact ldk12 | exact ldk13 | exact ldk14 | exact ldk15 | exact ldk17 | exact ldk18 | exact ldk19 | exact ldk21 | exact ldk22 | exact ldk26 | exact ldk32 | exact ldk36 | exact ldk39 | exact ldk68 | exact ldk74 | exact ldk76) (Nat.le_of_ble_eq_true (by rfl))) | exact OpA.quietW (QOp.len_own (by rfl) (by first | exact slk32 | exact slk36 | exact slk39) (by rfl) (by rfl) (by rfl) (by rfl)) | exact OpA.quietW (QOp.sEq (by rfl) (by rfl) (by rfl) (by first | exact flk26.1) (by rfl) (by rfl) (by rfl) (by rfl) (by rfl) (by rfl) (by rfl) (by rfl)) | exact OpA.quietW (QOp.index_str (by rfl) (by first | exact kds9 | exact kds11) (by rfl) (by rfl) (by first | assumption | omega) (by assumption)) | exact OpA.quietW (QOp.pickAnd (by rfl) (by rfl) (by rfl) (by rfl) (by rfl)) | exact OpA.quietW (QOp.pickOr (by rfl) (by rfl) (by rfl) (by rfl) (by rfl))) ?_
        | (refine AL.guardT (by rfl) (by rfl) (by rfl) (by rfl) (fun h => ?_) ?_; rotate_left; focus (intro h; (try simp only [Bool.not_eq_true', Bool.not_eq_false'] at h); first | (cases h; done) | exact clash (by with_reducible_and_instances assumption) h | exact clash h (by with_reducible_and_instances assumption) | exact absurd h (by decide) | (refine absurd h ?_; simp; done)))
        | (refine AL.guardT (by rfl) (by rfl) (by rfl) (by rfl) ?_ (fun h => ?_); focus (intro h; (try simp only [Bool.not_eq_true', Bool.not_eq_false'] at h); first | (cases h; done) | exact clash (by with_reducible_and_instances assumption) h | exact clash h (by with_reducible_and_instances assumption) | exact absurd h (by decide) | (refine absurd h ?_; simp; done)))
        | (refine AL.guardT (by rfl) (by rfl) (by rfl) (by rfl) ?_ ?_ <;> (intro h; try simp only [Bool.not_eq_true', Bool.not_eq_false'] at h))
        | (refine AL.guardF (by rfl) (by rfl) (by rfl) (by rfl) (fun h => ?_) ?_; rotate_left; focus (intro h; (try simp only [Bool.not_eq_true', Bool.not_eq_false'] at h); first | (cases h; done) | exact clash (by with_reducible_and_instances assumption) h | exact clash h (by with_reducible_and_instances assumption) | exact absurd h (by decide) | (refine absurd h ?_; simp; done)))
        | (refine AL.guardF (by rfl) (by rfl) (by rfl) (by rfl) ?_ (fun h => ?_); focus (intro h; (try simp only [Bool.not_eq_true', Bool.not_eq_false'] at h); first | (cases h; done) | exact clash (by with_reducible_and_instances assumption) h | exact clash h (by with_reducible_and_instances assumption) | exact absurd h (by decide) | (refine absurd h ?_; simp; done)))
        | (refine AL.guardF (by rfl) (by rfl) (by rfl) (by rfl) ?_ ?_ <;> (intro h; try simp only [Bool.not_eq_true', Bool.not_eq_false'] at h))
        | (refine AW.cond (by rfl) (fun h => ?_) ?_; rotate_left; focus (intro h; (try simp only [Bool.not_eq_true', Bool.not_eq_false'] at h); first | (cases h; done) | exact clash (by with_reducible_and_instances assumption) h | exact clash h (by with_reducible_and_instances assumption) | exact absurd h (by decide) | (refine absurd h ?_; simp; done)))
        | (refine AW.cond (by rfl) ?_ (fun h => ?_); focus (intro h; (try simp only [Bool.not_eq_true', Bool.not_eq_false'] at h); first | (cases h; done) | exact clash (by with_reducible_and_instances assumption) h | exact clash h (by with_reducible_and_instances assumption) | exact absurd h (by decide) | (refine absurd h ?_; simp; done)))
        | (refine AW.cond (by rfl) ?_ ?_ <;> (intro h; try simp only [Bool.not_eq_true', Bool.not_eq_false'] at h))
        | refine AW.block ?_
        | refine AW.exit ?_
        | refine AL.nil ?_
        | refine AW.ret ?_) <;> (try dsimp only [dput, List.set, cond_true, cond_false, Nat.zero_add, Nat.add_zero, Nat.reduceAdd, splice, List.take, List.drop, List.length, List.nil_append, List.cons_append, TPoint.en, TSegment.en, TBox.en, TFeature.en, TMeet.en, TPlace.en, TCover.en, TLabel.en, TPiece.en, TLevel.en, TChart.en, TReason.en, TEdit.en, TEntry.en, TEdition.en, TListing.en, TAtlas.en, TEvent.en, TWindow.en]))
      all_goals first
        | (refine ⟨i + 1, [], ⟨hlt, by simp_all⟩, by omega, ?_, rfl, ?_, ?_⟩; (focus ((repeat' (first | exact Wk.nil | refine Wk.any ?_ | (with_reducible refine Wk.same ?_) | refine Wk.of ?_ ?_)) <;> (simp_all))); (focus ((repeat' (first | exact Fits.nil _ | refine Fits.cons ?_ ?_ | exact Fits.any _ | exact Fits.c _ _ | exact Fits.own (by rfl) | exact Fits.ref (by rfl) | exact Fits.clo (by assumption) | exact Fits.clo (clo_of (by rfl)) | exact Fits.clo (clo_fn _))))); (focus (exact fits_row (clo_rows_b rfl))))
        | exact Fin.one rfl (RV.tmp (by rfl)) (clo_c _) ⟨by have hn := covTo_not (n := s.size) (by simp_all : covAt s i = false) hlt; simp_all [isCover], rfl⟩
    · have e : i = s.size := by omega
      have ht := str_ge hlt
      subst e
      repeat' ((first
        | refine AW.seq ?_
        | refine AW.region ?_
        | refine AW.skip ?_
        | refine AL.q TT_ok rfl (by rfl) ?_
        | refine AL.step rfl ?_
        | refine OpA.q TT_ok (by rfl) ?_
        | (refine OpA.quiet (QOp.pickT (by rfl) (by rfl) ?_ (by rfl)) ?_; focus (first | (with_reducible rfl) | (with_reducible_and_instances assumption) | (simp only [Bool.not_eq_true', Bool.not_eq_false']; with_reducible_and_instances assumption)))
        | (refine OpA.quiet (QOp.pickF (by rfl) (by rfl) ?_ (by rfl)) ?_; focus (first | (with_reducible rfl) | (with_reducible_and_instances assumption) | (simp only [Bool.not_eq_true', Bool.not_eq_false']; with_reducible_and_instances assumption)))
        | refine OpA.quiet (QOp.ld1_ro (by rfl) (by rfl) (by assumption) (by first | exact ldk2 | exact ldk3 | exact ldk4 | exact ldk5 | exact ldk6 | exact ldk7 | exact ldk8 | exact ldk9 | exact ldk11 | exact ldk12 | exact ldk13 | exact ldk14 | exact ldk15 | exact ldk17 | exact ldk18 | exact ldk19 | exact ldk21 | exact ldk22 | exact ldk26 | exact ldk32 | exact ldk36 | exact ldk39 | exact ldk68 | exact ldk74 | exact ldk76) (by rfl)) ?_
        | refine OpA.quiet (QOp.ldr_ro (by rfl) (by rfl) (by assumption) (by first | exact ldk2 | exact ldk3 | exact ldk4 | exact ldk5 | exact ldk6 | exact ldk7 | exact ldk8 | exact ldk9 | exact ldk11 | exact ldk12 | exact ldk13 | exact ldk14 | exact ldk15 | exact ldk17 | exact ldk18 | exact ldk19 | exact ldk21 | exact ldk22 | exact ldk26 | exact ldk32 | exact ldk36 | exact ldk39 | exact ldk68 | exact ldk74 | exact ldk76) (Nat.le_of_ble_eq_true (by rfl))) ?_
        | refine OpA.quiet (QOp.len_own (by rfl) (by first | exact slk32 | exact slk36 | exact slk39) (by rfl) (by rfl) (by rfl) (by rfl)) ?_
        | refine OpA.quiet (QOp.sEq (by rfl) (by rfl) (by rfl) (by first | exact flk26.1) (by rfl) (by rfl) (by rfl) (by rfl) (by rfl) (by rfl) (by rfl) (by rfl)) ?_
        | refine OpA.quiet (QOp.index_str (by rfl) (by first | exact kds9 | exact kds11) (by rfl) (by rfl) (by first | assumption | omega) (by assumption)) ?_
        | refine OpA.box (by rfl) (by rfl) (by rfl) ?_
        | refine OpA.pcall (by rfl) Try.func75 rfl rfl (by rfl) (by first | exact clo_all (by rfl) | (intro x hx; simp only [List.mem_cons, List.not_mem_nil, or_false] at hx; rcases hx with rfl | rfl | rfl | rfl | rfl | rfl | rfl | rfl <;> first | exact clo_of (by rfl) | exact clo_fn _ | assumption)) (inr_s _ _ _) (by first | exact clo_of (by rfl) | assumption) ?_
        | refine OpA.quiet (QOp.pickAnd (by rfl) (by rfl) (by rfl) (by rfl) (by rfl)) ?_
        | refine OpA.quiet (QOp.pickOr (by rfl) (by rfl) (by rfl) (by rfl) (by rfl)) ?_
        | refine AL.guardU (by rfl) (by rfl) (by rfl) (by rfl) ?_
        | refine AL.gF (by rfl) (by rfl) (by rfl) (by rfl) (by first | rfl | assumption) ?_
        | refine AL.gT (by rfl) (by rfl) (by rfl) (by rfl) (by first | rfl | assumption) ?_
        | refine AL.guardW (by rfl) (by rfl) (by rfl) (by rfl) (fun h => by (try rw [h]); first | exact OpA.quietW (QOp.quietA TT_ok (by rfl)) | exact OpA.pcall (by rfl) Try.func75 rfl rfl (by rfl) (by first | exact clo_all (by rfl) | (intro x hx; simp only [List.mem_cons, List.not_mem_nil, or_false] at hx; rcases hx with rfl | rfl | rfl | rfl | rfl | rfl | rfl | rfl <;> first | exact clo_of (by rfl) | exact clo_fn _ | assumption)) (inr_s _ _ _) (by first | exact clo_of (by rfl) | assumption) ⟨by rfl, rfl⟩ | exact OpA.quietW (QOp.ld1_ro (by rfl) (by rfl) (by assumption) (by first | exact ldk2 | exact ldk3 | exact ldk4 | exact ldk5 | exact ldk6 | exact ldk7 | exact ldk8 | exact ldk9 | exact ldk11 | exact ldk12 | exact ldk13 | exact ldk14 | exact ldk15 | exact ldk17 | exact ldk18 | exact ldk19 | exact ldk21 | exact ldk22 | exact ldk26 | exact ldk32 | exact ldk36 | exact ldk39 | exact ldk68 | exact ldk74 | exact ldk76) (by rfl)) | exact OpA.quietW (QOp.ldr_ro (by rfl) (by rfl) (by assumption) (by first | exact ldk2 | exact ldk3 | exact ldk4 | exact ldk5 | exact ldk6 | exact ldk7 | exact ldk8 | exact ldk9 | exact ldk11 | exact ldk12 | exact ldk13 | exact ldk14 | exact ldk15 | exact ldk17 | exact ldk18 | exact ldk19 | exact ldk21 | exact ldk22 | exact ldk26 | exact ldk32 | exact ldk36 | exact ldk39 | exact ldk68 | exact ldk74 | exact ldk76) (Nat.le_of_ble_eq_true (by rfl))) | exact OpA.quietW (QOp.len_own (by rfl) (by first | exact slk32 | exact slk36 | exact slk39) (by rfl) (by rfl) (by rfl) (by rfl)) | exact OpA.quietW (QOp.sEq (by rfl) (by rfl) (by rfl) (by first | exact flk26.1) (by rfl) (by rfl) (by rfl) (by rfl) (by rfl) (by rfl) (by rfl) (by rfl)) | exact OpA.quietW (QOp.index_str (by rfl) (by first | exact kds9 | exact kds11) (by rfl) (by rfl) (by first | assumption | omega) (by assumption)) | exact OpA.quietW (QOp.pickAnd (by rfl) (by rfl) (by rfl) (by rfl) (by rfl)) | exact OpA.quietW (QOp.pickOr (by rfl) (by rfl) (by rfl) (by rfl) (by rfl))) ?_
        | (refine AL.guardT (by rfl) (by rfl) (by rfl) (by rfl) (fun h => ?_) ?_; rotate_left; focus (intro h; (try simp only [Bool.not_eq_true', Bool.not_eq_false'] at h); first | (cases h; done) | exact clash (by with_reducible_and_instances assumption) h | exact clash h (by with_reducible_and_instances assumption) | exact absurd h (by decide) | (refine absurd h ?_; simp; done)))
        | (refine AL.guardT (by rfl) (by rfl) (by rfl) (by rfl) ?_ (fun h => ?_); focus (intro h; (try simp only [Bool.not_eq_true', Bool.not_eq_false'] at h); first | (cases h; done) | exact clash (by with_reducible_and_instances assumption) h | exact clash h (by with_reducible_and_instances assumption) | exact absurd h (by decide) | (refine absurd h ?_; simp; done)))
        | (refine AL.guardT (by rfl) (by rfl) (by rfl) (by rfl) ?_ ?_ <;> (intro h; try simp only [Bool.not_eq_true', Bool.not_eq_false'] at h))
        | (refine AL.guardF (by rfl) (by rfl) (by rfl) (by rfl) (fun h => ?_) ?_; rotate_left; focus (intro h; (try simp only [Bool.not_eq_true', Bool.not_eq_false'] at h); first | (cases h; done) | exact clash (by with_reducible_and_instances assumption) h | exact clash h (by with_reducible_and_instances assumption) | exact absurd h (by decide) | (refine absurd h ?_; simp; done)))
        | (refine AL.guardF (by rfl) (by rfl) (by rfl) (by rfl) ?_ (fun h => ?_); focus (intro h; (try simp only [Bool.not_eq_true', Bool.not_eq_false'] at h); first | (cases h; done) | exact clash (by with_reducible_and_instances assumption) h | exact clash h (by with_reducible_and_instances assumption) | exact absurd h (by decide) | (refine absurd h ?_; simp; done)))
        | (refine AL.guardF (by rfl) (by rfl) (by rfl) (by rfl) ?_ ?_ <;> (intro h; try simp only [Bool.not_eq_true', Bool.not_eq_false'] at h))
        | (refine AW.cond (by rfl) (fun h => ?_) ?_; rotate_left; focus (intro h; (try simp only [Bool.not_eq_true', Bool.not_eq_false'] at h); first | (cases h; done) | exact clash (by with_reducible_and_instances assumption) h | exact clash h (by with_reducible_and_instances assumption) | exact absurd h (by decide) | (refine absurd h ?_; simp; done)))
        | (refine AW.cond (by rfl) ?_ (fun h => ?_); focus (intro h; (try simp only [Bool.not_eq_true', Bool.not_eq_false'] at h); first | (cases h; done) | exact clash (by with_reducible_and_instances assumption) h | exact clash h (by with_reducible_and_instances assumption) | exact absurd h (by decide) | (refine absurd h ?_; simp; done)))
        | (refine AW.cond (by rfl) ?_ ?_ <;> (intro h; try simp only [Bool.not_eq_true', Bool.not_eq_false'] at h))
        | refine AW.block ?_
        | refine AW.exit ?_
        | refine AL.nil ?_
        | refine AW.ret ?_) <;> (try dsimp only [dput, List.set, cond_true, cond_false, Nat.zero_add, Nat.add_zero, Nat.reduceAdd, splice, List.take, List.drop, List.length, List.nil_append, List.cons_append, TPoint.en, TSegment.en, TBox.en, TFeature.en, TMeet.en, TPlace.en, TCover.en, TLabel.en, TPiece.en, TLevel.en, TChart.en, TReason.en, TEdit.en, TEntry.en, TEdition.en, TListing.en, TAtlas.en, TEvent.en, TWindow.en]))
      all_goals exact Fin.one rfl (RV.tmp (by rfl)) (clo_c _) ⟨by simp_all [isCover], rfl⟩

theorem isCover_s_t (w g : Int) (s : ByteArray) (hs : s.size ≤ 1048576) (hc : isCover w g s = true) : VCalls Try.prog 35 [.agg [I w, I g, S s]] (fun r M => r = B true ∧ M = []) := hc ▸ isCover_s w g s hs
theorem isCover_s_f (w g : Int) (s : ByteArray) (hs : s.size ≤ 1048576) (hc : isCover w g s = false) : VCalls Try.prog 35 [.agg [I w, I g, S s]] (fun r M => r = B false ∧ M = []) := hc ▸ isCover_s w g s hs
set_option maxRecDepth 100000 in
set_option maxHeartbeats 2000000 in
theorem isCover_i (w g : Int) (s : ByteArray) (hs : s.size ≤ 1048576) : VCalls Try.prog 36 [.agg [I w, I g, S s]] (fun r M => r = B (isCover w g s) ∧ M = []) := by
  refine VCalls.bodyE Try.func36 rfl 43 rfl (fun E hE => ?_)
  simp only [List.reduceReplicate, List.cons_append, List.nil_append]
  repeat' ((first
    | refine AW.seq ?_
    | refine AW.region ?_
    | refine AW.skip ?_
    | refine AL.q TT_ok rfl (by rfl) ?_
    | refine AL.step rfl ?_
    | refine OpA.q TT_ok (by rfl) ?_
    | (refine OpA.quiet (QOp.pickT (by rfl) (by rfl) ?_ (by rfl)) ?_; focus (first | (with_reducible rfl) | (with_reducible_and_instances assumption) | (simp only [Bool.not_eq_true', Bool.not_eq_false']; with_reducible_and_instances assumption)))
    | (refine OpA.quiet (QOp.pickF (by rfl) (by rfl) ?_ (by rfl)) ?_; focus (first | (with_reducible rfl) | (with_reducible_and_instances assumption) | (simp only [Bool.not_eq_true', Bool.not_eq_false']; with_reducible_and_instances assumption)))
    | refine OpA.quiet (QOp.ld1_ro (by rfl) (by rfl) (by assumption) (by first | exact ldk2 | exact ldk3 | exact ldk4 | exact ldk5 | exact ldk6 | exact ldk7 | exact ldk8 | exact ldk9 | exact ldk11 | exact ldk12 | exact ldk13 | exact ldk14 | exact ldk15 | exact ldk17 | exact ldk18 | exact ldk19 | exact ldk21 | exact ldk22 | exact ldk26 | exact ldk32 | exact ldk36 | exact ldk39 | exact ldk68 | exact ldk74 | exact ldk76) (by rfl)) ?_
    | refine OpA.quiet (QOp.ldr_ro (by rfl) (by rfl) (by assumption) (by first | exact ldk2 | exact ldk3 | exact ldk4 | exact ldk5 | exact ldk6 | exact ldk7 | exact ldk8 | exact ldk9 | exact ldk11 | exact ldk12 | exact ldk13 | exact ldk14 | exact ldk15 | exact ldk17 | exact ldk18 | exact ldk19 | exact ldk21 | exact ldk22 | exact ldk26 | exact ldk32 | exact ldk36 | exact ldk39 | exact ldk68 | exact ldk74 | exact ldk76) (Nat.le_of_ble_eq_true (by rfl))) ?_
    | refine OpA.quiet (QOp.len_own (by rfl) (by first | exact slk32 | exact slk36 | exact slk39) (by rfl) (by rfl) (by rfl) (by rfl)) ?_
    | refine OpA.quiet (QOp.sEq (by rfl) (by rfl) (by rfl) (by first | exact flk26.1) (by rfl) (by rfl) (by rfl) (by rfl) (by rfl) (by rfl) (by rfl) (by rfl)) ?_
    | refine OpA.quiet (QOp.index_str (by rfl) (by first | exact kds9 | exact kds11) (by rfl) (by rfl) (by first | assumption | omega) (by assumption)) ?_
    | refine OpA.box (by rfl) (by rfl) (by rfl) ?_
    | refine OpA.pcall (by rfl) Try.func76 rfl rfl (by rfl) (by first | exact clo_all (by rfl) | (intro x hx; simp only [List.mem_cons, List.not_mem_nil, or_false] at hx; rcases hx with rfl | rfl | rfl | rfl | rfl | rfl | rfl | rfl <;> first | exact clo_of (by rfl) | exact clo_fn _ | assumption)) (inr_v _ _ _) (by first | exact clo_of (by rfl) | assumption) ?_
    | (refine AW.loopD hE (fun i : Nat => [.agg [I w, I g, S s], .ref 0 0 3 0 0, .any, .any, .any, .any, .any, .any, .any, .any, .any, .any, .any, .any, .any, .any, .any, .any, .any, .any, .any, .any, .any, .any, .any, .any, .any, I s.size, I i, .any, .any, .any, .any, .any, .any, .any, .any, .any, .any, .any, .any, .any, .any, .any]) (fun i => [some ⟨26, 3, 0, true, [[I w, I g, S s]]⟩]) (fun i => s.size - i) (fun i => i ≤ s.size ∧ covTo s i = true) 0 ⟨Nat.zero_le _, by simp [covTo]⟩ ?_ (by first | rfl | (simp [fil_zero]; done)) ?_)
    | refine OpA.quiet (QOp.pickAnd (by rfl) (by rfl) (by rfl) (by rfl) (by rfl)) ?_
    | refine OpA.quiet (QOp.pickOr (by rfl) (by rfl) (by rfl) (by rfl) (by rfl)) ?_
    | refine AL.guardU (by rfl) (by rfl) (by rfl) (by rfl) ?_
    | refine AL.gF (by rfl) (by rfl) (by rfl) (by rfl) (by first | rfl | assumption) ?_
    | refine AL.gT (by rfl) (by rfl) (by rfl) (by rfl) (by first | rfl | assumption) ?_
    | refine AL.guardW (by rfl) (by rfl) (by rfl) (by rfl) (fun h => by (try rw [h]); first | exact OpA.quietW (QOp.quietA TT_ok (by rfl)) | exact OpA.pcall (by rfl) Try.func76 rfl rfl (by rfl) (by first | exact clo_all (by rfl) | (intro x hx; simp only [List.mem_cons, List.not_mem_nil, or_false] at hx; rcases hx with rfl | rfl | rfl | rfl | rfl | rfl | rfl | rfl <;> first | exact clo_of (by rfl) | exact clo_fn _ | assumption)) (inr_v _ _ _) (by first | exact clo_of (by rfl) | assumption) ⟨by rfl, rfl⟩ | exact OpA.quietW (QOp.ld1_ro (by rfl) (by rfl) (by assumption) (by first | exact ldk2 | exact ldk3 | exact ldk4 | exact ldk5 | exact ldk6 | exact ldk7 | exact ldk8 | exact ldk9 | exact ldk11 | exact ldk12 | exact ldk13 | exact ldk14 | exact ldk15 | exact ldk17 | exact ldk18 | exact ldk19 | exact ldk21 | exact ldk22 | exact ldk26 | exact ldk32 | exact ldk36 | exact ldk39 | exact ldk68 | exact ldk74 | exact ldk76) (by rfl)) | exact OpA.quietW (QOp.ldr_ro (by rfl) (by rfl) (by assumption) (by first | exact ldk2 | exact ldk3 | exact ldk4 | exact ldk5 | exact ldk6 | exact ldk7 | exact ldk8 | exact ldk9 | exact ldk11 | exact ldk12 | exact ldk13 | exact ldk14 | exact ldk15 | exact ldk17 | exact ldk18 | exact ldk19 | exact ldk21 | exact ldk22 | exact ldk26 | exact ldk32 | exact ldk36 | exact ldk39 | exact ldk68 | exact ldk74 | exact ldk76) (Nat.le_of_ble_eq_true (by rfl))) | exact OpA.quietW (QOp.len_own (by rfl) (by first | exact slk32 | exact slk36 | exact slk39) (by rfl) (by rfl) (by rfl) (by rfl)) | exact OpA.quietW (QOp.sEq (by rfl) (by rfl) (by rfl) (by first | exact flk26.1) (by rfl) (by rfl) (by rfl) (by rfl) (by rfl) (by rfl) (by rfl) (by rfl)) | exact OpA.quietW (QOp.index_str (by rfl) (by first | exact kds9 | exact kds11) (by rfl) (by rfl) (by first | assumption | omega) (by assumption)) | exact OpA.quietW (QOp.pickAnd (by rfl) (by rfl) (by rfl) (by rfl) (by rfl)) | exact OpA.quietW (QOp.pickOr (by rfl) (by rfl) (by rfl) (by rfl) (by rfl))) ?_
    | (refine AL.guardT (by rfl) (by rfl) (by rfl) (by rfl) (fun h => ?_) ?_; rotate_left; focus (intro h; (try simp only [Bool.not_eq_true', Bool.not_eq_false'] at h); first | (cases h; done) | exact clash (by with_reducible_and_instances assumption) h | exact clash h (by with_reducible_and_instances assumption) | exact absurd h (by decide) | (refine absurd h ?_; simp; done)))
    | (refine AL.guardT (by rfl) (by rfl) (by rfl) (by rfl) ?_ (fun h => ?_); focus (intro h; (try simp only [Bool.not_eq_true', Bool.not_eq_false'] at h); first | (cases h; done) | exact clash (by with_reducible_and_instances assumption) h | exact clash h (by with_reducible_and_instances assumption) | exact absurd h (by decide) | (refine absurd h ?_; simp; done)))
    | (refine AL.guardT (by rfl) (by rfl) (by rfl) (by rfl) ?_ ?_ <;> (intro h; try simp only [Bool.not_eq_true', Bool.not_eq_false'] at h))
    | (refine AL.guardF (by rfl) (by rfl) (by rfl) (by rfl) (fun h => ?_) ?_; rotate_left; focus (intro h; (try simp only [Bool.not_eq_true', Bool.not_eq_false'] at h); first | (cases h; done) | exact clash (by with_reducible_and_instances assumption) h | exact clash h (by with_reducible_and_instances assumption) | exact absurd h (by decide) | (refine absurd h ?_; simp; done)))
    | (refine AL.guardF (by rfl) (by rfl) (by rfl) (by rfl) ?_ (fun h => ?_); focus (intro h; (try simp only [Bool.not_eq_true', Bool.not_eq_false'] at h); first | (cases h; done) | exact clash (by with_reducible_and_instances assumption) h | exact clash h (by with_reducible_and_instances assumption) | exact absurd h (by decide) | (refine absurd h ?_; simp; done)))
    | (refine AL.guardF (by rfl) (by rfl) (by rfl) (by rfl) ?_ ?_ <;> (intro h; try simp only [Bool.not_eq_true', Bool.not_eq_false'] at h))
    | (refine AW.cond (by rfl) (fun h => ?_) ?_; rotate_left; focus (intro h; (try simp only [Bool.not_eq_true', Bool.not_eq_false'] at h); first | (cases h; done) | exact clash (by with_reducible_and_instances assumption) h | exact clash h (by with_reducible_and_instances assumption) | exact absurd h (by decide) | (refine absurd h ?_; simp; done)))
    | (refine AW.cond (by rfl) ?_ (fun h => ?_); focus (intro h; (try simp only [Bool.not_eq_true', Bool.not_eq_false'] at h); first | (cases h; done) | exact clash (by with_reducible_and_instances assumption) h | exact clash h (by with_reducible_and_instances assumption) | exact absurd h (by decide) | (refine absurd h ?_; simp; done)))
    | (refine AW.cond (by rfl) ?_ ?_ <;> (intro h; try simp only [Bool.not_eq_true', Bool.not_eq_false'] at h))
    | refine AW.block ?_
    | refine AW.exit ?_
    | refine AL.nil ?_
    | refine AW.ret ?_) <;> (try dsimp only [dput, List.set, cond_true, cond_false, Nat.zero_add, Nat.add_zero, Nat.reduceAdd, splice, List.take, List.drop, List.length, List.nil_append, List.cons_append, TPoint.en, TSegment.en, TBox.en, TFeature.en, TMeet.en, TPlace.en, TCover.en, TLabel.en, TPiece.en, TLevel.en, TChart.en, TReason.en, TEdit.en, TEntry.en, TEdition.en, TListing.en, TAtlas.en, TEvent.en, TWindow.en]))
  · exact Fin.one rfl (RV.tmp (by rfl)) (clo_c _) ⟨by simp only [isCover]; revert h; cases inr w 1 6 <;> cases inr g 1 6 <;> simp <;> simp_all, rfl⟩
  · (repeat' (first | exact Wk.nil | refine Wk.any ?_ | (with_reducible refine Wk.same ?_) | refine Wk.of ?_ ?_)) <;> first | rfl | (simp)
  · intro i hi
    by_cases hlt : i < s.size
    · skip
      obtain ⟨b, hb, hb'⟩ := str_get hlt
      have ht := str_lt hlt
      have hn := next_ix hlt (by omega)
      have hc := covAt_some hb
      have hsu := covTo_succ s i
      repeat' ((first
        | refine AW.seq ?_
        | refine AW.region ?_
        | refine AW.skip ?_
        | refine AL.q TT_ok rfl (by rfl) ?_
        | refine AL.step rfl ?_
        | refine OpA.q TT_ok (by rfl) ?_
        | (refine OpA.quiet (QOp.pickT (by rfl) (by rfl) ?_ (by rfl)) ?_; focus (first | (with_reducible rfl) | (with_reducible_and_instances assumption) | (simp only [Bool.not_eq_true', Bool.not_eq_false']; with_reducible_and_instances assumption)))
        | (refine OpA.quiet (QOp.pickF (by rfl) (by rfl) ?_ (by rfl)) ?_; focus (first | (with_reducible rfl) | (with_reducible_and_instances assumption) | (simp only [Bool.not_eq_true', Bool.not_eq_false']; with_reducible_and_instances assumption)))
        | refine OpA.quiet (QOp.ld1_ro (by rfl) (by rfl) (by assumption) (by first | exact ldk2 | exact ldk3 | exact ldk4 | exact ldk5 | exact ldk6 | exact ldk7 | exact ldk8 | exact ldk9 | exact ldk11 | exact ldk12 | exact ldk13 | exact ldk14 | exact ldk15 | exact ldk17 | exact ldk18 | exact ldk19 | exact ldk21 | exact ldk22 | exact ldk26 | exact ldk32 | exact ldk36 | exact ldk39 | exact ldk68 | exact ldk74 | exact ldk76) (by rfl)) ?_
        | refine OpA.quiet (QOp.ldr_ro (by rfl) (by rfl) (by assumption) (by first | exact ldk2 | exact ldk3 | exact ldk4 | exact ldk5 | exact ldk6 | exact ldk7 | exact ldk8 | exact ldk9 | exact ldk11 | exact ldk12 | exact ldk13 | exact ldk14 | exact ldk15 | exact ldk17 | exact ldk18 | exact ldk19 | exact ldk21 | exact ldk22 | exact ldk26 | exact ldk32 | exact ldk36 | exact ldk39 | exact ldk68 | exact ldk74 | exact ldk76) (Nat.le_of_ble_eq_true (by rfl))) ?_
        | refine OpA.quiet (QOp.len_own (by rfl) (by first | exact slk32 | exact slk36 | exact slk39) (by rfl) (by rfl) (by rfl) (by rfl)) ?_
        | refine OpA.quiet (QOp.sEq (by rfl) (by rfl) (by rfl) (by first | exact flk26.1) (by rfl) (by rfl) (by rfl) (by rfl) (by rfl) (by rfl) (by rfl) (by rfl)) ?_
        | refine OpA.quiet (QOp.index_str (by rfl) (by first | exact kds9 | exact kds11) (by rfl) (by rfl) (by first | assumption | omega) (by assumption)) ?_
        | refine OpA.box (by rfl) (by rfl) (by rfl) ?_
        | refine OpA.pcall (by rfl) Try.func76 rfl rfl (by rfl) (by first | exact clo_all (by rfl) | (intro x hx; simp only [List.mem_cons, List.not_mem_nil, or_false] at hx; rcases hx with rfl | rfl | rfl | rfl | rfl | rfl | rfl | rfl <;> first | exact clo_of (by rfl) | exact clo_fn _ | assumption)) (inr_v _ _ _) (by first | exact clo_of (by rfl) | assumption) ?_
        | refine OpA.quiet (QOp.pickAnd (by rfl) (by rfl) (by rfl) (by rfl) (by rfl)) ?_
        | refine OpA.quiet (QOp.pickOr (by rfl) (by rfl) (by rfl) (by rfl) (by rfl)) ?_
        | refine AL.guardU (by rfl) (by rfl) (by rfl) (by rfl) ?_
        | refine AL.gF (by rfl) (by rfl) (by rfl) (by rfl) (by first | rfl | assumption) ?_
        | refine AL.gT (by rfl) (by rfl) (by rfl) (by rfl) (by first | rfl | assumption) ?_
        | refine AL.guardW (by rfl) (by rfl) (by rfl) (by rfl) (fun h => by (try rw [h]); first | exact OpA.quietW (QOp.quietA TT_ok (by rfl)) | exact OpA.pcall (by rfl) Try.func76 rfl rfl (by rfl) (by first | exact clo_all (by rfl) | (intro x hx; simp only [List.mem_cons, List.not_mem_nil, or_false] at hx; rcases hx with rfl | rfl | rfl | rfl | rfl | rfl | rfl | rfl <;> first | exact clo_of (by rfl) | exact clo_fn _ | assumption)) (inr_v _ _ _) (by first | exact clo_of (by rfl) | assumption) ⟨by rfl, rfl⟩ | exact OpA.quietW (QOp.ld1_ro (by rfl) (by rfl) (by assumption) (by first | exact ldk2 | exact ldk3 | exact ldk4 | exact ldk5 | exact ldk6 | exact ldk7 | exact ldk8 | exact ldk9 | exact ldk11 | exact ldk12 | exact ldk13 | exact ldk14 | exact ldk15 | exact ldk17 | exact ldk18 | exact ldk19 | exact ldk21 | exact ldk22 | exact ldk26 | exact ldk32 | exact ldk36 | exact ldk39 | exact ldk68 | exact ldk74 | exact ldk76) (by rfl)) | exact OpA.quietW (QOp.ldr_ro (by rfl) (by rfl) (by assumption) (by first | exact ldk2 | exact ldk3 | exact ldk4 | exact ldk5 | exact ldk6 | exact ldk7 | exact ldk8 | exact ldk9 | exact ldk11 | exact ldk12 | exact ldk13 | exact ldk14 | exact ldk15 | exact ldk17 | exact ldk18 | exact ldk19 | exact ldk21 | exact ldk22 | exact ldk26 | exact ldk32 | exact ldk36 | exact ldk39 | exact ldk68 | exact ldk74 | exact ldk76) (Nat.le_of_ble_eq_true (by rfl))) | exact OpA.quietW (QOp.len_own (by rfl) (by first | exact slk32 | exact slk36 | exact slk39) (by rfl) (by rfl) (by rfl) (by rfl)) | exact OpA.quietW (QOp.sEq (by rfl) (by rfl) (by rfl) (by first | exact flk26.1) (by rfl) (by rfl) (by rfl) (by rfl) (by rfl) (by rfl) (by rfl) (by rfl)) | exact OpA.quietW (QOp.index_str (by rfl) (by first | exact kds9 | exact kds11) (by rfl) (by rfl) (by first | assumption | omega) (by assumption)) | exact OpA.quietW (QOp.pickAnd (by rfl) (by rfl) (by rfl) (by rfl) (by rfl)) | exact OpA.quietW (QOp.pickOr (by rfl) (by rfl) (by rfl) (by rfl) (by rfl))) ?_
        | (refine AL.guardT (by rfl) (by rfl) (by rfl) (by rfl) (fun h => ?_) ?_; rotate_left; focus (intro h; (try simp only [Bool.not_eq_true', Bool.not_eq_false'] at h); first | (cases h; done) | exact clash (by with_reducible_and_instances assumption) h | exact clash h (by with_reducible_and_instances assumption) | exact absurd h (by decide) | (refine absurd h ?_; simp; done)))
        | (refine AL.guardT (by rfl) (by rfl) (by rfl) (by rfl) ?_ (fun h => ?_); focus (intro h; (try simp only [Bool.not_eq_true', Bool.not_eq_false'] at h); first | (cases h; done) | exact clash (by with_reducible_and_instances assumption) h | exact clash h (by with_reducible_and_instances assumption) | exact absurd h (by decide) | (refine absurd h ?_; simp; done)))
        | (refine AL.guardT (by rfl) (by rfl) (by rfl) (by rfl) ?_ ?_ <;> (intro h; try simp only [Bool.not_eq_true', Bool.not_eq_false'] at h))
        | (refine AL.guardF (by rfl) (by rfl) (by rfl) (by rfl) (fun h => ?_) ?_; rotate_left; focus (intro h; (try simp only [Bool.not_eq_true', Bool.not_eq_false'] at h); first | (cases h; done) | exact clash (by with_reducible_and_instances assumption) h | exact clash h (by with_reducible_and_instances assumption) | exact absurd h (by decide) | (refine absurd h ?_; simp; done)))
        | (refine AL.guardF (by rfl) (by rfl) (by rfl) (by rfl) ?_ (fun h => ?_); focus (intro h; (try simp only [Bool.not_eq_true', Bool.not_eq_false'] at h); first | (cases h; done) | exact clash (by with_reducible_and_instances assumption) h | exact clash h (by with_reducible_and_instances assumption) | exact absurd h (by decide) | (refine absurd h ?_; simp; done)))
        | (refine AL.guardF (by rfl) (by rfl) (by rfl) (by rfl) ?_ ?_ <;> (intro h; try simp only [Bool.not_eq_true', Bool.not_eq_false'] at h))
        | (refine AW.cond (by rfl) (fun h => ?_) ?_; rotate_left; focus (intro h; (try simp only [Bool.not_eq_true', Bool.not_eq_false'] at h); first | (cases h; done) | exact clash (by with_reducible_and_instances assumption) h | exact clash h (by with_reducible_and_instances assumption) | exact absurd h (by decide) | (refine absurd h ?_; simp; done)))
        | (refine AW.cond (by rfl) ?_ (fun h => ?_); focus (intro h; (try simp only [Bool.not_eq_true', Bool.not_eq_false'] at h); first | (cases h; done) | exact clash (by with_reducible_and_instances assumption) h | exact clash h (by with_reducible_and_instances assumption) | exact absurd h (by decide) | (refine absurd h ?_; simp; done)))
        | (refine AW.cond (by rfl) ?_ ?_ <;> (intro h; try simp only [Bool.not_eq_true', Bool.not_eq_false'] at h))
        | refine AW.block ?_
        | refine AW.exit ?_
        | refine AL.nil ?_
        | refine AW.ret ?_) <;> (try dsimp only [dput, List.set, cond_true, cond_false, Nat.zero_add, Nat.add_zero, Nat.reduceAdd, splice, List.take, List.drop, List.length, List.nil_append, List.cons_append, TPoint.en, TSegment.en, TBox.en, TFeature.en, TMeet.en, TPlace.en, TCover.en, TLabel.en, TPiece.en, TLevel.en, TChart.en, TReason.en, TEdit.en, TEntry.en, TEdition.en, TListing.en, TAtlas.en, TEvent.en, TWindow.en]))
      all_goals first
        | (refine ⟨i + 1, [], ⟨hlt, by simp_all⟩, by omega, ?_, rfl, ?_, ?_⟩; (focus ((repeat' (first | exact Wk.nil | refine Wk.any ?_ | (with_reducible refine Wk.same ?_) | refine Wk.of ?_ ?_)) <;> (simp_all))); (focus ((repeat' (first | exact Fits.nil _ | refine Fits.cons ?_ ?_ | exact Fits.any _ | exact Fits.c _ _ | exact Fits.own (by rfl) | exact Fits.ref (by rfl) | exact Fits.clo (by assumption) | exact Fits.clo (clo_of (by rfl)) | exact Fits.clo (clo_fn _))))); (focus (exact fits_row (clo_rows_b rfl))))
        | exact Fin.one rfl (RV.tmp (by rfl)) (clo_c _) ⟨by have hn := covTo_not (n := s.size) (by simp_all : covAt s i = false) hlt; simp_all [isCover], rfl⟩
    · have e : i = s.size := by omega
      have ht := str_ge hlt
      subst e
      repeat' ((first
        | refine AW.seq ?_
        | refine AW.region ?_
        | refine AW.skip ?_
        | refine AL.q TT_ok rfl (by rfl) ?_
        | refine AL.step rfl ?_
        | refine OpA.q TT_ok (by rfl) ?_
        | (refine OpA.quiet (QOp.pickT (by rfl) (by rfl) ?_ (by rfl)) ?_; focus (first | (with_reducible rfl) | (with_reducible_and_instances assumption) | (simp only [Bool.not_eq_true', Bool.not_eq_false']; with_reducible_and_instances assumption)))
        | (refine OpA.quiet (QOp.pickF (by rfl) (by rfl) ?_ (by rfl)) ?_; focus (first | (with_reducible rfl) | (with_reducible_and_instances assumption) | (simp only [Bool.not_eq_true', Bool.not_eq_false']; with_reducible_and_instances assumption)))
        | refine OpA.quiet (QOp.ld1_ro (by rfl) (by rfl) (by assumption) (by first | exact ldk2 | exact ldk3 | exact ldk4 | exact ldk5 | exact ldk6 | exact ldk7 | exact ldk8 | exact ldk9 | exact ldk11 | exact ldk12 | exact ldk13 | exact ldk14 | exact ldk15 | exact ldk17 | exact ldk18 | exact ldk19 | exact ldk21 | exact ldk22 | exact ldk26 | exact ldk32 | exact ldk36 | exact ldk39 | exact ldk68 | exact ldk74 | exact ldk76) (by rfl)) ?_
        | refine OpA.quiet (QOp.ldr_ro (by rfl) (by rfl) (by assumption) (by first | exact ldk2 | exact ldk3 | exact ldk4 | exact ldk5 | exact ldk6 | exact ldk7 | exact ldk8 | exact ldk9 | exact ldk11 | exact ldk12 | exact ldk13 | exact ldk14 | exact ldk15 | exact ldk17 | exact ldk18 | exact ldk19 | exact ldk21 | exact ldk22 | exact ldk26 | exact ldk32 | exact ldk36 | exact ldk39 | exact ldk68 | exact ldk74 | exact ldk76) (Nat.le_of_ble_eq_true (by rfl))) ?_
        | refine OpA.quiet (QOp.len_own (by rfl) (by first | exact slk32 | exact slk36 | exact slk39) (by rfl) (by rfl) (by rfl) (by rfl)) ?_
        | refine OpA.quiet (QOp.sEq (by rfl) (by rfl) (by rfl) (by first | exact flk26.1) (by rfl) (by rfl) (by rfl) (by rfl) (by rfl) (by rfl) (by rfl) (by rfl)) ?_
        | refine OpA.quiet (QOp.index_str (by rfl) (by first | exact kds9 | exact kds11) (by rfl) (by rfl) (by first | assumption | omega) (by assumption)) ?_
        | refine OpA.box (by rfl) (by rfl) (by rfl) ?_
        | refine OpA.pcall (by rfl) Try.func76 rfl rfl (by rfl) (by first | exact clo_all (by rfl) | (intro x hx; simp only [List.mem_cons, List.not_mem_nil, or_false] at hx; rcases hx with rfl | rfl | rfl | rfl | rfl | rfl | rfl | rfl <;> first | exact clo_of (by rfl) | exact clo_fn _ | assumption)) (inr_v _ _ _) (by first | exact clo_of (by rfl) | assumption) ?_
        | refine OpA.quiet (QOp.pickAnd (by rfl) (by rfl) (by rfl) (by rfl) (by rfl)) ?_
        | refine OpA.quiet (QOp.pickOr (by rfl) (by rfl) (by rfl) (by rfl) (by rfl)) ?_
        | refine AL.guardU (by rfl) (by rfl) (by rfl) (by rfl) ?_
        | refine AL.gF (by rfl) (by rfl) (by rfl) (by rfl) (by first | rfl | assumption) ?_
        | refine AL.gT (by rfl) (by rfl) (by rfl) (by rfl) (by first | rfl | assumption) ?_
        | refine AL.guardW (by rfl) (by rfl) (by rfl) (by rfl) (fun h => by (try rw [h]); first | exact OpA.quietW (QOp.quietA TT_ok (by rfl)) | exact OpA.pcall (by rfl) Try.func76 rfl rfl (by rfl) (by first | exact clo_all (by rfl) | (intro x hx; simp only [List.mem_cons, List.not_mem_nil, or_false] at hx; rcases hx with rfl | rfl | rfl | rfl | rfl | rfl | rfl | rfl <;> first | exact clo_of (by rfl) | exact clo_fn _ | assumption)) (inr_v _ _ _) (by first | exact clo_of (by rfl) | assumption) ⟨by rfl, rfl⟩ | exact OpA.quietW (QOp.ld1_ro (by rfl) (by rfl) (by assumption) (by first | exact ldk2 | exact ldk3 | exact ldk4 | exact ldk5 | exact ldk6 | exact ldk7 | exact ldk8 | exact ldk9 | exact ldk11 | exact ldk12 | exact ldk13 | exact ldk14 | exact ldk15 | exact ldk17 | exact ldk18 | exact ldk19 | exact ldk21 | exact ldk22 | exact ldk26 | exact ldk32 | exact ldk36 | exact ldk39 | exact ldk68 | exact ldk74 | exact ldk76) (by rfl)) | exact OpA.quietW (QOp.ldr_ro (by rfl) (by rfl) (by assumption) (by first | exact ldk2 | exact ldk3 | exact ldk4 | exact ldk5 | exact ldk6 | exact ldk7 | exact ldk8 | exact ldk9 | exact ldk11 | exact ldk12 | exact ldk13 | exact ldk14 | exact ldk15 | exact ldk17 | exact ldk18 | exact ldk19 | exact ldk21 | exact ldk22 | exact ldk26 | exact ldk32 | exact ldk36 | exact ldk39 | exact ldk68 | exact ldk74 | exact ldk76) (Nat.le_of_ble_eq_true (by rfl))) | exact OpA.quietW (QOp.len_own (by rfl) (by first | exact slk32 | exact slk36 | exact slk39) (by rfl) (by rfl) (by rfl) (by rfl)) | exact OpA.quietW (QOp.sEq (by rfl) (by rfl) (by rfl) (by first | exact flk26.1) (by rfl) (by rfl) (by rfl) (by rfl) (by rfl) (by rfl) (by rfl) (by rfl)) | exact OpA.quietW (QOp.index_str (by rfl) (by first | exact kds9 | exact kds11) (by rfl) (by rfl) (by first | assumption | omega) (by assumption)) | exact OpA.quietW (QOp.pickAnd (by rfl) (by rfl) (by rfl) (by rfl) (by rfl)) | exact OpA.quietW (QOp.pickOr (by rfl) (by rfl) (by rfl) (by rfl) (by rfl))) ?_
        | (refine AL.guardT (by rfl) (by rfl) (by rfl) (by rfl) (fun h => ?_) ?_; rotate_left; focus (intro h; (try simp only [Bool.not_eq_true', Bool.not_eq_false'] at h); first | (cases h; done) | exact clash (by with_reducible_and_instances assumption) h | exact clash h (by with_reducible_and_instances assumption) | exact absurd h (by decide) | (refine absurd h ?_; simp; done)))
        | (refine AL.guardT (by rfl) (by rfl) (by rfl) (by rfl) ?_ (fun h => ?_); focus (intro h; (try simp only [Bool.not_eq_true', Bool.not_eq_false'] at h); first | (cases h; done) | exact clash (by with_reducible_and_instances assumption) h | exact clash h (by with_reducible_and_instances assumption) | exact absurd h (by decide) | (refine absurd h ?_; simp; done)))
        | (refine AL.guardT (by rfl) (by rfl) (by rfl) (by rfl) ?_ ?_ <;> (intro h; try simp only [Bool.not_eq_true', Bool.not_eq_false'] at h))
        | (refine AL.guardF (by rfl) (by rfl) (by rfl) (by rfl) (fun h => ?_) ?_; rotate_left; focus (intro h; (try simp only [Bool.not_eq_true', Bool.not_eq_false'] at h); first | (cases h; done) | exact clash (by with_reducible_and_instances assumption) h | exact clash h (by with_reducible_and_instances assumption) | exact absurd h (by decide) | (refine absurd h ?_; simp; done)))
        | (refine AL.guardF (by rfl) (by rfl) (by rfl) (by rfl) ?_ (fun h => ?_); focus (intro h; (try simp only [Bool.not_eq_true', Bool.not_eq_false'] at h); first | (cases h; done) | exact clash (by with_reducible_and_instances assumption) h | exact clash h (by with_reducible_and_instances assumption) | exact absurd h (by decide) | (refine absurd h ?_; simp; done)))
        | (refine AL.guardF (by rfl) (by rfl) (by rfl) (by rfl) ?_ ?_ <;> (intro h; try simp only [Bool.not_eq_true', Bool.not_eq_false'] at h))
        | (refine AW.cond (by rfl) (fun h => ?_) ?_; rotate_left; focus (intro h; (try simp only [Bool.not_eq_true', Bool.not_eq_false'] at h); first | (cases h; done) | exact clash (by with_reducible_and_instances assumption) h | exact clash h (by with_reducible_and_instances assumption) | exact absurd h (by decide) | (refine absurd h ?_; simp; done)))
        | (refine AW.cond (by rfl) ?_ (fun h => ?_); focus (intro h; (try simp only [Bool.not_eq_true', Bool.not_eq_false'] at h); first | (cases h; done) | exact clash (by with_reducible_and_instances assumption) h | exact clash h (by with_reducible_and_instances assumption) | exact absurd h (by decide) | (refine absurd h ?_; simp; done)))
        | (refine AW.cond (by rfl) ?_ ?_ <;> (intro h; try simp only [Bool.not_eq_true', Bool.not_eq_false'] at h))
        | refine AW.block ?_
        | refine AW.exit ?_
        | refine AL.nil ?_
        | refine AW.ret ?_) <;> (try dsimp only [dput, List.set, cond_true, cond_false, Nat.zero_add, Nat.add_zero, Nat.reduceAdd, splice, List.take, List.drop, List.length, List.nil_append, List.cons_append, TPoint.en, TSegment.en, TBox.en, TFeature.en, TMeet.en, TPlace.en, TCover.en, TLabel.en, TPiece.en, TLevel.en, TChart.en, TReason.en, TEdit.en, TEntry.en, TEdition.en, TListing.en, TAtlas.en, TEvent.en, TWindow.en]))
      all_goals exact Fin.one rfl (RV.tmp (by rfl)) (clo_c _) ⟨by simp_all [isCover], rfl⟩

theorem isCover_i_t (w g : Int) (s : ByteArray) (hs : s.size ≤ 1048576) (hc : isCover w g s = true) : VCalls Try.prog 36 [.agg [I w, I g, S s]] (fun r M => r = B true ∧ M = []) := hc ▸ isCover_i w g s hs
theorem isCover_i_f (w g : Int) (s : ByteArray) (hs : s.size ≤ 1048576) (hc : isCover w g s = false) : VCalls Try.prog 36 [.agg [I w, I g, S s]] (fun r M => r = B false ∧ M = []) := hc ▸ isCover_i w g s hs
set_option maxHeartbeats 1000000 in
set_option maxRecDepth 100000 in
theorem count_calls (s : ByteArray) (c : UInt8) (w : World) : Calls Try.prog 37 #[.string s, .string ⟨#[c]⟩] w fun e w' => e = .returned (.int .i64 (countByte s.data.toList c)) ∧ w' = w := by
  go_enter Try.func37, Try.ntmps37
  go_wp2
  rw [run_callFunc_extern Try.func78 (by kernel_rfl) (by kernel_rfl) (by kernel_rfl) (e := Extern.BytealgCount.count) (by kernel_rfl), run_countString]
  simp only [Result.andThen]
  rw [Oper.upon_value]
  go_wp2
  go_ret
  exact ⟨rfl, rfl⟩
theorem count_v (s : ByteArray) (c : UInt8) : VCalls Try.prog 37 [S s, S ⟨#[c]⟩] (fun r M => r = I (cntB s c s.size) ∧ M = []) := by
  rw [cntB_all]
  exact VCalls.plain (vs := [.string s, .string ⟨#[c]⟩]) fun w => (count_calls s c w).mono fun e w' h => ⟨h.1, h.2 ▸ Below.refl _ _⟩
end Go.Proofs.Ytbkcoechoblndaa.Abs
