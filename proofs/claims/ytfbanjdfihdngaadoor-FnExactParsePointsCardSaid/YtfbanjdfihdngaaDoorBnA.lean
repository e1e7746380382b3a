/- Part A of the walk over abstract states and of the functions' walks. -/
import Derived.Test.YtfbanjdfihdngaaDoorWkStep
import Derived.Test.YtfbanjdfihdngaaDoorWkSz
import Derived.Test.YtfbanjdfihdngaaDoorShelf
import Derived.Lib.AppendIntMem
import Derived.Lib.ItoaLen
import Derived.Lib.JoinLaws
import Derived.Lib.Join
import Derived.Test.YtfbanjdfihdngaaDoorWkTo
import Derived.Test.YtfbanjdfihdngaaDoorWkEq
/- Numerals and joined lists: what the library's functions give, and the plain laws. -/
namespace Go.Proofs.YtfbanjdfihdngaaDoor.Abs
open Go.Proofs Go.RowKit
set_option linter.unusedVariables false
set_option linter.unusedSimpArgs false
set_option maxRecDepth 100000
set_option maxHeartbeats 2000000
def fmtI (n : Int) : ByteArray := bs (Lib.itoa n)
theorem i64_iff {n : Int} (h : i64 n) : -9223372036854775808 ≤ n ∧ n ≤ 9223372036854775807 := by
  have e1 : IntKind.i64.min = -9223372036854775808 := rfl
  have e2 : IntKind.i64.max = 9223372036854775807 := rfl
  simp [i64, Lit.wf, e1, e2] at h
  omega
theorem fmtI_size {n : Int} (h : i64 n) : (fmtI n).size ≤ 21 := by
  rw [fmtI, bs_size]
  exact Lib.itoa_length_le n (i64_iff h).1 (i64_iff h).2
def sfx (u : Nat) : Nat → List UInt8
  | 0 => []
  | k + 1 => UInt8.ofNat (48 + u / 10 ^ k % 10) :: sfx u k
theorem sfx_len (u : Nat) : ∀ k, (sfx u k).length = k
  | 0 => rfl
  | k + 1 => by simp [sfx, sfx_len u k]
theorem sfx_snoc (u : Nat) : ∀ k, sfx u (k + 1) = sfx (u / 10) k ++ [UInt8.ofNat (48 + u % 10)]
  | 0 => by simp [sfx]
  | k + 1 => by
    rw [show sfx u (k + 2) = UInt8.ofNat (48 + u / 10 ^ (k + 1) % 10) :: sfx u (k + 1) from rfl, sfx_snoc u k, show sfx (u / 10) (k + 1) = UInt8.ofNat (48 + u / 10 / 10 ^ k % 10) :: sfx (u / 10) k from rfl, Nat.div_div_eq_div_mul, ← Nat.pow_succ']
    rfl
theorem nd_lt : ∀ (i u : Nat), 0 < u → (i < Lib.nDigits u ↔ u / 10 ^ i ≠ 0)
  | 0, u, h => by
    have : 0 < Lib.nDigits u := by
      by_cases hs : u < 10
      · rw [Lib.nDigits_small hs]; decide
      · rw [Lib.nDigits_big hs]; omega
    simp; omega
  | i + 1, u, h => by
    by_cases hs : u < 10
    · rw [Lib.nDigits_small hs]
      have h1 : u / 10 ^ (i + 1) = 0 := Nat.div_eq_of_lt (Nat.lt_of_lt_of_le hs (by rw [Nat.pow_succ]; have := Nat.pow_pos (n := i) (show 0 < 10 by decide); omega))
      simp [h1]
    · rw [Lib.nDigits_big hs]
      have := nd_lt i (u / 10) (by omega)
      rw [Nat.div_div_eq_div_mul, ← Nat.pow_succ'] at this
      rw [← this]
      omega
theorem sfx_all : ∀ (u : Nat), 0 < u → sfx u (Lib.nDigits u) = Lib.decDigits u := by
  intro u
  induction u using Nat.strongRecOn with
  | _ u ih =>
    intro h
    by_cases hs : u < 10
    · rw [Lib.nDigits_small hs, Lib.decDigits, dif_pos hs]
      simp [sfx, Nat.mod_eq_of_lt hs]
    · rw [Lib.nDigits_big hs, Lib.decDigits, dif_neg hs, sfx_snoc, ih (u / 10) (by omega) (by omega)]
def xk (n : Int) (i : Nat) : Int := if n < 0 then -((n.natAbs / 10 ^ i : Nat) : Int) else ((n.natAbs / 10 ^ i : Nat) : Int)
theorem w8 {n : Int} (h1 : 0 ≤ n) (h2 : n ≤ 255) : IntKind.u8.wrap n = n := by
  unfold IntKind.wrap
  simp [IntKind.bits, IntKind.signed]
  omega
theorem xk_zero (n : Int) : xk n 0 = n := by
  unfold xk
  simp
  split <;> omega
theorem xk_succ {n : Int} (h0 : -9223372036854775808 ≤ n) (h1 : n ≤ 9223372036854775807) (i : Nat) : IntKind.i64.wrap ((xk n i).tdiv 10) = xk n (i + 1) := by
  obtain ⟨u, hu⟩ : ∃ u : Nat, u = n.natAbs / 10 ^ i := ⟨_, rfl⟩
  have hu2 : n.natAbs / 10 ^ (i + 1) = u / 10 := by rw [Nat.pow_succ, ← Nat.div_div_eq_div_mul, hu]
  have hul : u ≤ n.natAbs := hu ▸ Nat.div_le_self _ _
  have hx : xk n i = if n < 0 then -(u : Int) else (u : Int) := by unfold xk; rw [hu]
  have hx2 : xk n (i + 1) = if n < 0 then -((u / 10 : Nat) : Int) else ((u / 10 : Nat) : Int) := by unfold xk; rw [hu2]
  rw [hx, hx2]
  by_cases hn : n < 0
  · rw [if_pos hn, if_pos hn, Int.neg_tdiv, Int.tdiv_eq_ediv_of_nonneg (by omega), w64 (by omega) (by omega)]
    omega
  · rw [if_neg hn, if_neg hn, Int.tdiv_eq_ediv_of_nonneg (by omega), w64 (by omega) (by omega)]
    omega
theorem dig_cases (n : Int) (i : Nat) :
    (decide ((xk n i).tmod 10 < 0) = false ∧ IntKind.u8.wrap (IntKind.i64.wrap (48 + (xk n i).tmod 10)) = (((UInt8.ofNat (48 + n.natAbs / 10 ^ i % 10)).toNat : Nat) : Int)) ∨
    (decide ((xk n i).tmod 10 < 0) = true ∧ IntKind.u8.wrap (IntKind.i64.wrap (48 + IntKind.i64.wrap (-(xk n i).tmod 10))) = (((UInt8.ofNat (48 + n.natAbs / 10 ^ i % 10)).toNat : Nat) : Int)) := by
  generalize hu : n.natAbs / 10 ^ i = u
  have hb : (UInt8.ofNat (48 + u % 10)).toNat = 48 + u % 10 := by simp; omega
  rw [hb]
  have hx : xk n i = if n < 0 then -(u : Int) else (u : Int) := by unfold xk; rw [hu]
  rw [hx]
  by_cases hn : n < 0
  · rw [if_pos hn]
    have e : (-(u : Int)).tmod 10 = -((u : Int) % 10) := by rw [Int.neg_tmod, Int.tmod_eq_emod_of_nonneg (by omega)]
    rw [e]
    by_cases h : (u : Int) % 10 = 0
    · left
      refine ⟨decide_eq_false (by omega), ?_⟩
      rw [w64 (by omega) (by omega), w8 (by omega) (by omega)]
      omega
    · right
      refine ⟨decide_eq_true (by omega), ?_⟩
      rw [w64 (n := - -((u : Int) % 10)) (by omega) (by omega), w64 (by omega) (by omega), w8 (by omega) (by omega)]
      omega
  · rw [if_neg hn, Int.tmod_eq_emod_of_nonneg (by omega)]
    left
    refine ⟨decide_eq_false (by omega), ?_⟩
    rw [w64 (by omega) (by omega), w8 (by omega) (by omega)]
    omega
theorem xk_ne {n : Int} {i : Nat} (h : n.natAbs / 10 ^ i ≠ 0) : (xk n i != 0) = true := by
  unfold xk
  generalize n.natAbs / 10 ^ i = u at *
  simp
  split <;> omega
theorem xk_eq {n : Int} {i : Nat} (h : n.natAbs / 10 ^ i = 0) : (xk n i != 0) = false := by
  unfold xk
  rw [h]
  simp
theorem i_lt19 {n : Int} (h0 : -9223372036854775808 ≤ n) (h1 : n ≤ 9223372036854775807) {i : Nat} (h : n.natAbs / 10 ^ i ≠ 0) : i < 19 := by
  rcases Nat.lt_or_ge i 19 with hi | hi
  · exact hi
  · exact absurd (Nat.div_eq_of_lt (Nat.lt_of_lt_of_le (by omega : n.natAbs < 10 ^ 19) (Nat.pow_le_pow_right (by decide) hi))) h
theorem fmtI_pos {n : Int} (h : ¬ n < 0) (h0 : n ≠ 0) : fmtI n = bs (sfx n.natAbs (Lib.nDigits n.natAbs)) := by
  rw [sfx_all _ (by omega), fmtI, Lib.itoa, if_neg h]
  congr 2
  omega
theorem fmtI_neg {n : Int} (h : n < 0) : fmtI n = ⟨#[45]⟩ ++ bs (sfx n.natAbs (Lib.nDigits n.natAbs)) := by
  rw [sfx_all _ (by omega), fmtI, Lib.itoa, if_pos h]
  exact (bs_append [45] _).symm
theorem fmtI_zero : fmtI 0 = ⟨#[48]⟩ := by simp [fmtI, Lib.itoa, Lib.decDigits, bs]
theorem fmtI_z {n : Int} (h : (n == 0) = true) : fmtI n = ⟨#[48]⟩ := by
  obtain rfl : n = 0 := by simpa using h
  exact fmtI_zero
theorem size1 (c : UInt8) (u k : Nat) : (⟨#[c]⟩ : ByteArray).size + (bs (sfx u k)).size = 1 + k := by
  rw [bs_size (sfx u k), sfx_len]
  rfl
def jn (l : List ByteArray) (sep : ByteArray) : Nat → ByteArray
  | 0 => ⟨#[]⟩
  | i + 1 => (if i = 0 then jn l sep i else jn l sep i ++ sep) ++ (l[i]?).getD ⟨#[]⟩
theorem jn_zero {l : List ByteArray} {sep x : ByteArray} (h : l[0]? = some x) : jn l sep 1 = jn l sep 0 ++ x := by simp [jn, h]
theorem jn_succ {l : List ByteArray} {sep x : ByteArray} {i : Nat} (h : l[i]? = some x) (hi : 0 < i) : jn l sep (i + 1) = jn l sep i ++ sep ++ x := by
  rw [jn, if_neg (by omega), h]; rfl
theorem jn_size {l : List ByteArray} {sep : ByteArray} {B : Nat} (hB : ∀ x ∈ l, x.size ≤ B) : ∀ i, i ≤ l.length → (jn l sep i).size ≤ i * (B + sep.size)
  | 0, _ => by rw [Nat.zero_mul]; exact Nat.le_refl 0
  | i + 1, h => by
    have ih := jn_size (sep := sep) hB i (by omega)
    have hx : l[i]? = some l[i] := List.getElem?_eq_getElem (by omega)
    have hs := hB l[i] (List.getElem_mem ..)
    rw [jn, hx]
    simp only [Option.getD_some]
    rw [Nat.succ_mul]
    split <;> simp only [ByteArray.size_append] <;> omega
def joinR (l : List ByteArray) (sep : ByteArray) : ByteArray := if l.length = 0 then ⟨#[45]⟩ else jn l sep l.length
theorem empty_app (s : ByteArray) : (⟨#[]⟩ : ByteArray) ++ s = s := by
  have := bs_append [] s.data.toList
  rw [bs_data] at this
  exact this
theorem clo_rowsS {α : Type} {en : α → List AV} (h : ∀ a, ∀ x ∈ en a, Clo x) {l : List α} : ∀ r ∈ l.map en, ∀ x ∈ r, Clo x := fun r hr x hx => by
  obtain ⟨a, _, rfl⟩ := List.mem_map.1 hr
  exact h a x hx
theorem cloS : ∀ a : ByteArray, ∀ x ∈ [S a], Clo x := fun _ => clo_cons (clo_c _) clo_nil
theorem map_take_succS {α β : Type} {f : α → β} {l : List α} {i : Nat} {x : α} (h : l[i]? = some x) : (l.take (i + 1)).map f = (l.take i).map f ++ [f x] := by rw [take_succ_of h]; simp
theorem take_map_all {α β : Type} (f : α → β) (l : List α) : (l.map f).take l.length = l.map f := List.take_of_length_le (by simp)
theorem bs_app2 (a : List UInt8) (s : ByteArray) : bs a ++ s = bs (a ++ s.data.toList) := by
  have := bs_append a s.data.toList
  rwa [bs_data] at this
theorem joinTail_snoc (sep : List UInt8) (r : List (List UInt8)) (y : List UInt8) : Lib.joinTail sep (r ++ [y]) = Lib.joinTail sep r ++ sep ++ y := by simp [Lib.joinTail]
theorem jn_join {l : List ByteArray} {sep : ByteArray} : ∀ i, i < l.length → jn l sep (i + 1) = bs (Lib.join ((l.take (i + 1)).map (·.data.toList)) sep.data.toList)
  | 0, h => by
    have hx : l[0]? = some l[0] := List.getElem?_eq_getElem h
    rw [jn_zero hx, take_succ_of hx]
    simp [jn, Lib.join_one, bs_data]
    exact empty_app _
  | i + 1, h => by
    have hx : l[i + 1]? = some l[i + 1] := List.getElem?_eq_getElem h
    have ih := jn_join (l := l) (sep := sep) i (by omega)
    rw [jn_succ hx (by omega), ih, take_succ_of hx, List.map_append]
    obtain ⟨y, r, hy⟩ : ∃ y r, (l.take (i + 1)).map (·.data.toList) = y :: r := by
      cases hq : (l.take (i + 1)).map (·.data.toList) with
      | nil => have := congrArg List.length hq; rw [List.length_map, List.length_take, List.length_nil] at this; omega
      | cons y r => exact ⟨y, r, rfl⟩
    rw [hy]
    simp only [List.map_cons, List.map_nil, List.cons_append]
    rw [Lib.join_cons, Lib.join_cons, joinTail_snoc, bs_app2, bs_app2]
    exact congrArg bs (by simp)
theorem joinR_join {l : List ByteArray} {sep : ByteArray} (h : l.length ≠ 0) : joinR l sep = bs (Lib.join (l.map (·.data.toList)) sep.data.toList) := by
  have := jn_join (l := l) (sep := sep) (l.length - 1) (by omega)
  rw [show l.length - 1 + 1 = l.length by omega, List.take_length] at this
  rw [joinR, if_neg h, this]

end Go.Proofs.YtfbanjdfihdngaaDoor.Abs

/- The walks of FormatInt and of the joined lists. -/
namespace Go.Proofs.YtfbanjdfihdngaaDoor.Abs
open Go.Proofs Go.RowKit
set_option linter.unusedVariables false
set_option linter.unusedSimpArgs false
set_option maxRecDepth 100000
set_option maxHeartbeats 2000000
attribute [local irreducible] OpA AL AW DL DLM DLR DLS QOp POp VCalls VCallsI
theorem fmt_s (n : Int) (hn : i64 n) : VCalls Tryd.prog 17 [I n] (fun r M => r = S (fmtI n) ∧ M = []) := by
  refine VB Tryd.func17 30 (fun E hE => ?_)
  obtain ⟨hn0, hn1⟩ := i64_iff hn
  repeat' ((first
    | (refine iAL ?_; first | refine AL.any ?_ | refine AL.nil ?_)
    | (refine iAW ?_; first | (refine AW.c0 ?_; constructor) | refine AW.cT ?_ | refine AW.cF ?_ | (refine AW.c2 ?_ ?_ <;> (intro h; try simp only [bT, bF] at h)))
    | (refine AW.loopD hE (fun i : Nat => [I n, .any, .any, S (bs (sfx n.natAbs i)), I (xk n i), .any, .any, .any, .any, .any, .any, .any, .any, .any, .any, .any, .any, .any, .any, .any, .any, .any, .any, .any, .any, .any, .any, .any, .any, .any, .any]) (fun i => []) (fun i => (Lib.nDigits n.natAbs) - i) (fun i => i ≤ Lib.nDigits n.natAbs) 0 (Nat.zero_le _) ?_ (by first | rfl | (simp [fil_zero]; done)) ?_
       (focus ((repeat' (first | exact Wk.nil | refine Wk.any ?_ | (with_reducible refine Wk.same ?_) | refine Wk.of ?_ ?_)) <;> first | rfl | (first | rfl | (rw [xk_zero]; done) | simp [xk_zero])))
       intro i hi
       have hnz : n ≠ 0 := by have := h; simp at this; exact this
       have hu0 : 0 < n.natAbs := by omega
       by_cases hlt : i < (Lib.nDigits n.natAbs)
       case' pos =>
         have hP := True.intro
         obtain hlt' := (nd_lt i n.natAbs hu0).1 hlt
         have hne := xk_ne hlt'
         have h19 := i_lt19 hn0 hn1 hlt'
         have hq := xk_succ hn0 hn1 i
         have hct : (⟨#[UInt8.ofNat (48 + n.natAbs / 10 ^ i % 10)]⟩ : ByteArray) ++ bs (sfx n.natAbs i) = bs (sfx n.natAbs (i + 1)) := bs_append [_] _
         have hs1 : (⟨#[UInt8.ofNat (48 + n.natAbs / 10 ^ i % 10)]⟩ : ByteArray).size + (bs (sfx n.natAbs i)).size ≤ 9223372036854775807 := by rw [size1]; omega
         rcases dig_cases n i with ⟨hd, hv⟩ | ⟨hd, hv⟩
       case' neg =>
         have hQ := True.intro
         have e : i = (Lib.nDigits n.natAbs) := by omega
         have hz : n.natAbs / 10 ^ i = 0 := Classical.byContradiction fun hne => hlt ((nd_lt i n.natAbs hu0).2 hne)
         have hne := xk_eq hz
         subst e
         have hs2 : (⟨#[45]⟩ : ByteArray).size + (bs (sfx n.natAbs (Lib.nDigits n.natAbs))).size ≤ 9223372036854775807 := by
           rw [size1]
           have h3 : Lib.nDigits n.natAbs - 1 < 19 := i_lt19 hn0 hn1 ((nd_lt _ n.natAbs hu0).1 (by have := (nd_lt 0 n.natAbs hu0).2 (by simp; omega); omega))
           omega)
    | with_reducible refine ifP ?_
    | with_reducible refine ifN ?_) <;> (try dsimp only))
  all_goals first
    | (have _ := hP; (refine ⟨i + 1, _, hlt, by omega, ?_, rfl, ?_, ?_⟩; (focus ((repeat' (first | exact Wk.nil | refine Wk.any ?_ | (with_reducible refine Wk.same ?_) | refine Wk.of ?_ ?_)) <;> (first | (rw [hq]; done) | (rw [hct]; done) | rfl))); (focus (exact fitsA)); (focus (exact FitsM.nil _))))
    | (have _ := hQ; first | exact Fin.one rfl (RV.tmp (by rfl)) (clo_c _) ⟨by rw [fmtI_neg (by simpa using h)], rfl⟩ | exact Fin.one rfl (RV.tmp (by rfl)) (clo_c _) ⟨by rw [fmtI_pos (by simpa using h) hnz], rfl⟩)
    | (exact Fin.one rfl (RV.tmp (by rfl)) (clo_c _) ⟨by rw [fmtI_z h], rfl⟩)

theorem join_s (l : List ByteArray) (sep : ByteArray) (hl : l.length ≤ 1048576) (hB : ∀ x ∈ l, x.size ≤ 67108864) (hs : sep.size ≤ 8) : VCalls Tryd.prog 18 [.ro 1 (l.map (fun s => [S s])), S sep] (fun r M => r = S (joinR l sep) ∧ M = []) := by
  refine VB Tryd.func18 26 (fun E hE => ?_)
  repeat' ((first
    | (refine iAL ?_; first | refine AL.any ?_ | refine AL.nil ?_)
    | (refine iAW ?_; first | (refine AW.c0 ?_; constructor) | refine AW.cT ?_ | refine AW.cF ?_ | (refine AW.c2 ?_ ?_ <;> (intro h; try simp only [bT, bF] at h)))
    | (refine AW.loopD hE (fun i : Nat => [.ro 1 (l.map (fun s => [S s])), S sep, .any, .any, .any, S (jn l sep i), I i, .any, .any, .any, .any, .any, .any, .any, .any, .any, .any, .any, .any, .any, .any, .any, .any, .any, .any, .any, .any, .any]) (fun i => []) (fun i => l.length - i) (fun i => i ≤ l.length) 0 (by simp) ?_ (by first | rfl | (simp [fil_zero]; done)) ?_
       (focus ((repeat' (first | exact Wk.nil | refine Wk.any ?_ | (with_reducible refine Wk.same ?_) | refine Wk.of ?_ ?_)) <;> first | rfl | (rfl)))
       intro i hi
       have hclo : Clo (.ro 1 (l.map (fun s => [S s]))) := clo_list (fun _ => clo_cons (clo_c _) clo_nil)
       by_cases hlt : i < l.length
       case' pos =>
         have hP := True.intro
         obtain ⟨x, hx⟩ : ∃ x, l[i]? = some x := ⟨_, List.getElem?_eq_getElem hlt⟩
         have hg := map_get (f := (fun s => [S s])) hx
         have ht := lt_true (f := (fun s => [S s])) hlt
         have hn := next_ix hlt (by omega)
         have hxs := hB x (List.mem_of_getElem? hx)
         have hj := jn_size (sep := sep) hB i (by omega)
         have hk1 : i * (67108864 + sep.size) ≤ 1048576 * (67108864 + 8) := Nat.mul_le_mul (by omega) (by omega)
         have hc1 : (jn l sep i).size + sep.size ≤ 9223372036854775807 := by omega
         have hc2 : (jn l sep i ++ sep).size + x.size ≤ 9223372036854775807 := by rw [ByteArray.size_append]; omega
         have hc3 : (jn l sep i).size + x.size ≤ 9223372036854775807 := by omega
         have hjs : (i = 0 ∧ decide ((i : Int) > 0) = false ∧ jn l sep (i + 1) = jn l sep i ++ x) ∨ (decide ((i : Int) > 0) = true ∧ jn l sep (i + 1) = jn l sep i ++ sep ++ x) := by
           rcases Nat.eq_zero_or_pos i with h0 | h0
           · subst h0; exact .inl ⟨rfl, by simp, jn_zero hx⟩
           · exact .inr ⟨decide_eq_true (by omega), jn_succ hx h0⟩
         rcases hjs with ⟨_, hgt, hjq⟩ | ⟨hgt, hjq⟩
       case' neg =>
         have hQ := True.intro
         have ht := lt_false (f := (fun s => [S s])) hlt
         have e : i = l.length := by omega
         subst e
         try rw [List.take_length])
    | with_reducible refine ifP ?_
    | with_reducible refine ifN ?_) <;> (try dsimp only))
  all_goals first
    | (have _ := hP; (refine ⟨i + 1, _, hlt, by omega, ?_, rfl, ?_, ?_⟩; (focus ((repeat' (first | exact Wk.nil | refine Wk.any ?_ | (with_reducible refine Wk.same ?_) | refine Wk.of ?_ ?_)) <;> (first | (rw [hn]; done) | (rw [hjq]; done) | rfl))); (focus (exact fitsA)); (focus (exact FitsM.nil _))))
    | (have _ := hQ; first | exact Fin.one rfl (RV.tmp (by rfl)) (clo_c _) ⟨by rw [joinR, if_pos (by simpa using h)], rfl⟩ | exact Fin.one rfl (RV.tmp (by rfl)) (clo_c _) ⟨by rw [joinR, if_neg (by simpa using h)], rfl⟩)

def ptT (x : TPoint) : ByteArray := fmtI x.x ++ ⟨#[44]⟩ ++ fmtI x.y
theorem ptT_sizes {x : TPoint} (h : x.ok) : (fmtI x.x).size + (⟨#[44]⟩ : ByteArray).size ≤ 9223372036854775807 ∧ (fmtI x.x ++ ⟨#[44]⟩).size + (fmtI x.y).size ≤ 9223372036854775807 := by
  have h1 := fmtI_size h.1
  have h2 := fmtI_size h.2
  have h3 : (⟨#[44]⟩ : ByteArray).size = 1 := rfl
  rw [ByteArray.size_append]
  omega
theorem ptT_size {x : TPoint} (h : x.ok) : (ptT x).size ≤ 43 := by
  have h1 := fmtI_size h.1
  have h2 := fmtI_size h.2
  have h3 : (⟨#[44]⟩ : ByteArray).size = 1 := rfl
  unfold ptT
  rw [ByteArray.size_append, ByteArray.size_append]
  omega
def ptsT (l : List TPoint) : ByteArray := joinR (l.map ptT) ⟨#[59]⟩
theorem pts_s (l : List TPoint) (hl : l.length ≤ 1048576) (hok : ∀ x ∈ l, x.ok) : VCalls Tryd.prog 11 [.ro 2 (l.map TPoint.en)] (fun r M => r = S (ptsT l) ∧ M = []) := by
  refine VB Tryd.func11 30 (fun E hE => ?_)
  repeat' ((first
    | (refine iAL ?_; first | refine AL.any ?_ | refine AL.any (h := POp.k Tryd.func18 (hc := join_s (l.map ptT) _ (by assumption) (by assumption) (by first | assumption | decide))) ?_ | refine AL.nil ?_)
    | ((with_reducible show DL ..); first | refine DL.any ?_ | refine DL.any (h := POp.k Tryd.func17 (hc := fmt_s _ (by assumption))) ?_ | refine DL.nil ?_)
    | ((with_reducible show DLM ..); first | refine DLM.any ?_ | refine DLM.mk ?_ | refine DLM.any (h := fun Y => POp.k Tryd.func17 (hc := fmt_s _ (by assumption))) ?_ | refine DLM.nil ?_)
    | (refine iAW ?_; first | (refine AW.c0 ?_; constructor) | refine AW.drM (id := 5) 16 15 ?_ | refine AW.cT ?_ | refine AW.cF ?_ | (refine AW.c2 ?_ ?_ <;> (intro h; try simp only [bT, bF] at h)))
    | (refine AW.loopD hE (fun i : Nat => [.ro 2 (l.map TPoint.en), .any, .any, .own 0 i, I i, .any, .any, .any, .any, .any, .any, .any, .any, .any, .any, .any, .any, .any, .any, .any, .any, .any, .any, .any, .any, .any, .any, .any, .any, .any, .any]) (fun i => [some ⟨9, 1, i, false, ((l.map ptT).take i).map (fun s => [S s])⟩]) (fun i => l.length - i) (fun i => i ≤ l.length) 0 (by simp) ?_ (by first | rfl | (simp [fil_zero]; done)) ?_
       (focus (exact wkI))
       intro i hi
       have hclo : Clo (.ro 2 (l.map TPoint.en)) := clo_list TPoint.clo_en
       by_cases hlt : i < l.length
       case' pos =>
         have hP := True.intro
         obtain ⟨x, hx⟩ : ∃ x, l[i]? = some x := ⟨_, List.getElem?_eq_getElem hlt⟩
         have hg := map_get (f := TPoint.en) hx
         have ht := lt_true (f := TPoint.en) hlt
         have hn := next_ix hlt (by omega)
         have hxm := List.mem_of_getElem? hx
         have hs : (l.map ptT)[i]? = some (ptT x) := by rw [List.getElem?_map, hx]; rfl
         have hm := map_take_succS (f := fun s => [S s]) hs
         have hxo := hok x hxm
         have hx1 := hxo.1
         have hx2 := hxo.2
         obtain ⟨hz1, hz2⟩ := ptT_sizes hxo
       case' neg =>
         have hQ := True.intro
         have ht := lt_false (f := TPoint.en) hlt
         have e : i = l.length := by omega
         subst e
         try rw [List.take_length]
         have hlm : (l.map ptT).length ≤ 1048576 := by simpa using hl
         have hclR : Clo (.ro 1 ((l.map ptT).map (fun s => [S s]))) := clo_list cloS
         rw [take_map_all]
         have hB : ∀ x ∈ l.map ptT, x.size ≤ 67108864 := fun x hx => by
           obtain ⟨y, hy, rfl⟩ := List.mem_map.1 hx
           have := ptT_size (hok y hy)
           omega
         refine AW.freeze (t := 3) (id := 0) rfl rfl rfl rfl (clo_rowsS cloS) ?_
         try dsimp only [dput, List.set, cond_true, cond_false, Nat.zero_add, Nat.add_zero, Nat.reduceAdd, splice, List.take, List.drop, List.length, List.nil_append, List.cons_append, List.append, TPoint.en, TSegment.en, TBox.en, TFeature.en, TMeet.en, TPlace.en, TCover.en, TLabel.en, TPiece.en, TLevel.en, TChart.en, TReason.en, TEdit.en, TEntry.en, TEdition.en, TListing.en, TAtlas.en, TEvent.en, TWindow.en])
    | with_reducible refine ifP ?_
    | with_reducible refine ifN ?_) <;> (try dsimp only))
  all_goals first
    | (have _ := hP; (refine ⟨i + 1, _, hlt, by omega, ?_, by rw [hm] <;> rfl, ?_, ?_⟩; (focus (exact wkN)); (focus (exact fitsA)); (focus (exact fits_row (clo_rowsS cloS)))))
    | (have _ := hQ; exact Fin.one rfl (RV.tmp (by rfl)) (clo_c _) ⟨rfl, rfl⟩)

end Go.Proofs.YtfbanjdfihdngaaDoor.Abs

/- Texts parted at a byte, numerals and points read: the plain laws. -/
namespace Go.Proofs.YtfbanjdfihdngaaDoor.Abs
open Go.Proofs Go.RowKit
set_option linter.unusedVariables false
set_option linter.unusedSimpArgs false
set_option maxRecDepth 100000
set_option maxHeartbeats 2000000
def fds (b : UInt8) : List UInt8 → List (List UInt8)
  | [] => [[]]
  | c :: l => if c = b then [] :: fds b l else match fds b l with
    | [] => [[c]]
    | f :: r => (c :: f) :: r
theorem ix1_hit (b : UInt8) (l : List UInt8) : Lib.index (b :: l) [b] = 0 := by simp [Lib.index, List.isPrefixOf]
theorem ix1_miss {b c : UInt8} (l : List UInt8) (h : ¬ c = b) : Lib.index (c :: l) [b] = if Lib.index l [b] == -1 then -1 else Lib.index l [b] + 1 := by
  rw [Lib.index, show ([b] : List UInt8).isPrefixOf (c :: l) = false by simp [List.isPrefixOf]; exact fun e => h e.symm]
  simp
theorem fds_ix (b : UInt8) : ∀ l : List UInt8, (b ∉ l ∧ Lib.index l [b] = -1 ∧ fds b l = [l]) ∨ ∃ i : Nat, Lib.index l [b] = (i : Int) ∧ l[i]? = some b ∧ fds b l = l.take i :: fds b (l.drop (i + 1))
  | [] => .inl ⟨by simp, by simp [Lib.index], rfl⟩
  | c :: l => by
    by_cases h : c = b
    · subst h
      exact .inr ⟨0, ix1_hit c l, rfl, by simp [fds]⟩
    · have hm := ix1_miss l h
      rcases fds_ix b l with ⟨h1, h2, h3⟩ | ⟨i, h1, h2, h3⟩
      · left
        refine ⟨?_, ?_, ?_⟩
        · intro hb
          rcases List.mem_cons.1 hb with e | e
          · exact h e.symm
          · exact h1 e
        · rw [hm, h2]; rfl
        · rw [fds, if_neg h, h3]
      · right
        refine ⟨i + 1, ?_, ?_, ?_⟩
        · rw [hm, h1, if_neg (by simp)]; omega
        · simpa using h2
        · rw [fds, if_neg h, h3]; rfl
theorem fds_not {b : UInt8} {l : List UInt8} (h : b ∉ l) : fds b l = [l] := by
  rcases fds_ix b l with ⟨_, _, h3⟩ | ⟨i, _, h2, _⟩
  · exact h3
  · exact absurd (List.mem_of_getElem? h2) h
theorem fds_app {b : UInt8} (r : List UInt8) : ∀ {m : List UInt8}, b ∉ m → fds b (m ++ b :: r) = m :: fds b r
  | [], _ => by simp [fds]
  | c :: m, h => by
    rw [List.cons_append, fds, if_neg (fun e => h (by rw [e]; exact List.mem_cons_self)), fds_app r (fun hm => h (List.mem_cons_of_mem _ hm))]
theorem split_fds (b : UInt8) : ∀ (k : Nat) (l : List UInt8), Lib.count l [b] = k → Lib.splitK [b] 0 k l = fds b l
  | 0, l, hk => by
    rcases fds_ix b l with ⟨_, _, h3⟩ | ⟨i, h1, _, _⟩
    · rw [h3]; rfl
    · have := Lib.count_hit (sub := [b]) (by simp) h1; omega
  | k + 1, l, hk => by
    rcases fds_ix b l with ⟨_, h2, _⟩ | ⟨i, h1, _, h3⟩
    · have := Lib.count_miss h2; omega
    · have hc := Lib.count_hit (sub := [b]) (by simp) h1
      rw [Lib.splitK, h1, if_neg (by simp), h3]
      simp only [Int.toNat_natCast, Nat.add_zero, List.length_cons, List.length_nil, Nat.zero_add] at hc ⊢
      rw [split_fds b k _ (by omega)]
theorem splitB_fds (b : UInt8) (s : ByteArray) : Lib.splitB ⟨#[b]⟩ 0 (Lib.countB s ⟨#[b]⟩) s = (fds b s.data.toList).map bs := by
  have h1 := Lib.splitB_data ⟨#[b]⟩ 0 (Lib.countB s ⟨#[b]⟩) s
  have h2 := split_fds b _ s.data.toList rfl
  have h3 : (Lib.splitB ⟨#[b]⟩ 0 (Lib.countB s ⟨#[b]⟩) s).map (·.data.toList) = fds b s.data.toList := h1.trans h2
  rw [← h3, List.map_map]
  refine (List.map_id' _).symm.trans (List.map_congr_left fun x _ => ?_)
  exact (bs_data x).symm
theorem cut_fds (b : UInt8) (l : List UInt8) : (fds b l = [l] ∧ Lib.cut l [b] = (l, [], false)) ∨ ∃ i : Nat, l[i]? = some b ∧ fds b l = l.take i :: fds b (l.drop (i + 1)) ∧ Lib.cut l [b] = (l.take i, l.drop (i + 1), true) := by
  rcases fds_ix b l with ⟨_, h2, h3⟩ | ⟨i, h1, h2, h3⟩
  · exact .inl ⟨h3, by rw [Lib.cut, h2, if_neg (by decide)]⟩
  · exact .inr ⟨i, h2, h3, by rw [Lib.cut, h1, if_pos (by omega)]; simp⟩
theorem fds_len (b : UInt8) : ∀ l : List UInt8, 1 ≤ (fds b l).length ∧ (fds b l).length ≤ l.length + 1
  | [] => by simp [fds]
  | c :: l => by
    have ih := fds_len b l
    rw [fds]
    split
    · simp; omega
    · split
      · simp
      · rename_i f r e
        rw [e] at ih
        simp at ih ⊢
        omega
theorem fds_sz (b : UInt8) : ∀ l : List UInt8, ∀ p ∈ fds b l, p.length ≤ l.length
  | [], p, hp => by simp [fds] at hp; simp [hp]
  | c :: l, p, hp => by
    rw [fds] at hp
    split at hp
    · rcases List.mem_cons.1 hp with rfl | hp
      · simp
      · have := fds_sz b l p hp; simp; omega
    · split at hp
      · simp at hp; simp [hp]
      · rename_i f r e
        rcases List.mem_cons.1 hp with rfl | hp
        · have := fds_sz b l f (by rw [e]; exact List.mem_cons_self); simp; omega
        · have := fds_sz b l p (by rw [e]; exact List.mem_cons_of_mem _ hp); simp; omega
theorem fds_join (b : UInt8) : ∀ l : List UInt8, Lib.join (fds b l) [b] = l
  | [] => by simp [fds, Lib.join_one]
  | c :: l => by
    have ih := fds_join b l
    rw [fds]
    split
    · rename_i e
      obtain ⟨f, r, hf⟩ : ∃ f r, fds b l = f :: r := by
        cases hq : fds b l with
        | nil => have := (fds_len b l).1; rw [hq] at this; simp at this
        | cons f r => exact ⟨f, r, rfl⟩
      rw [hf] at ih ⊢
      rw [Lib.join_cons] at ih ⊢
      rw [show Lib.joinTail [b] (f :: r) = [b] ++ f ++ Lib.joinTail [b] r by simp [Lib.joinTail], e]
      rw [← ih]
      simp
    · split
      · rename_i e; have := (fds_len b l).1; rw [e] at this; simp at this
      · rename_i f r e
        rw [e] at ih
        rw [Lib.join_cons] at ih ⊢
        rw [List.cons_append, ih]
def isB (b : UInt8) (l : List UInt8) (i : Nat) : Bool := match l[i]? with
  | none => true
  | some c => c == b
def spA (b : UInt8) (l : List UInt8) : Nat → Nat
  | 0 => 0
  | i + 1 => if isB b l i = true then i + 1 else spA b l i
def spO (b : UInt8) (l : List UInt8) : Nat → List (List UInt8)
  | 0 => []
  | i + 1 => if isB b l i = true then spO b l i ++ [(l.drop (spA b l i)).take (i - spA b l i)] else spO b l i
theorem spA_le (b : UInt8) (l : List UInt8) : ∀ i, spA b l i ≤ i
  | 0 => Nat.le_refl _
  | i + 1 => by
    have := spA_le b l i
    rw [spA]
    split <;> omega
theorem spO_len (b : UInt8) (l : List UInt8) : ∀ i, (spO b l i).length ≤ i
  | 0 => Nat.le_refl _
  | i + 1 => by
    have := spO_len b l i
    rw [spO]
    split
    · simp; omega
    · omega
theorem sp_inv (b : UInt8) (l : List UInt8) : ∀ i, i ≤ l.length → b ∉ (l.drop (spA b l i)).take (i - spA b l i) ∧ fds b l = spO b l i ++ fds b (l.drop (spA b l i))
  | 0, _ => by simp [spA, spO]
  | i + 1, hi => by
    obtain ⟨h1, h2⟩ := sp_inv b l i (by omega)
    have hle := spA_le b l i
    have hg : l[i]? = some l[i] := List.getElem?_eq_getElem (by omega)
    have hsp : l.drop (spA b l i) = (l.drop (spA b l i)).take (i - spA b l i) ++ l[i] :: l.drop (i + 1) := by
      have e : l.drop i = l[i] :: l.drop (i + 1) := List.drop_eq_getElem_cons (by omega)
      rw [← e]
      have := (List.take_append_drop (i - spA b l i) (l.drop (spA b l i))).symm
      rw [List.drop_drop, show spA b l i + (i - spA b l i) = i by omega] at this
      exact this
    have hb : isB b l i = (l[i] == b) := by unfold isB; rw [hg]
    by_cases h : l[i] = b
    · have hb1 : isB b l i = true := by rw [hb, h]; exact beq_self_eq_true b
      rw [spA, if_pos hb1, spO, if_pos hb1]
      refine ⟨by simp, ?_⟩
      rw [h2]
      conv => lhs; rw [hsp, h, fds_app _ h1]
      simp
    · have hb1 : ¬ isB b l i = true := by rw [hb]; simpa using h
      rw [spA, if_neg hb1, spO, if_neg hb1]
      refine ⟨?_, h2⟩
      have e : (l.drop (spA b l i)).take (i + 1 - spA b l i) = (l.drop (spA b l i)).take (i - spA b l i) ++ [l[i]] := by
        rw [show i + 1 - spA b l i = (i - spA b l i) + 1 by omega, List.take_add_one, List.getElem?_drop, show spA b l i + (i - spA b l i) = i by omega, hg]
        rfl
      rw [e]
      intro hm
      rcases List.mem_append.1 hm with hm | hm
      · exact h1 hm
      · exact h (List.mem_singleton.1 hm).symm
theorem sp_all (b : UInt8) (l : List UInt8) : spO b l (l.length + 1) = fds b l := by
  obtain ⟨h1, h2⟩ := sp_inv b l l.length (Nat.le_refl _)
  have hle := spA_le b l l.length
  have hb : isB b l l.length = true := by unfold isB; rw [List.getElem?_eq_none (Nat.le_refl _)]
  have e : (l.drop (spA b l l.length)).take (l.length - spA b l l.length) = l.drop (spA b l l.length) := List.take_of_length_le (by simp)
  rw [e] at h1
  rw [spO, if_pos hb, e, h2, fds_not h1]
def isD (c : UInt8) : Bool := decide (48 ≤ c.toNat) && decide (c.toNat ≤ 57)
def vlF (l : List UInt8) : Nat := l.foldl (fun n c => 10 * n + (c.toNat - 48)) 0
def vl (l : List UInt8) (i : Nat) : Nat := vlF (l.take i)
theorem vlF_snoc (l : List UInt8) (d : UInt8) : vlF (l ++ [d]) = 10 * vlF l + (d.toNat - 48) := by simp [vlF, List.foldl_append]
theorem vl_zero (l : List UInt8) : vl l 0 = 0 := rfl
theorem vl_succ {l : List UInt8} {i : Nat} {c : UInt8} (h : l[i]? = some c) : vl l (i + 1) = 10 * vl l i + (c.toNat - 48) := by
  unfold vl
  rw [take_succ_of h, vlF_snoc]
theorem vl_lt (l : List UInt8) : ∀ i, i ≤ l.length → (l.take i).all isD = true → vl l i < 10 ^ i
  | 0, _, _ => by rw [vl_zero]; decide
  | i + 1, hi, h => by
    have hg : l[i]? = some l[i] := List.getElem?_eq_getElem (by omega)
    rw [take_succ_of hg, List.all_append] at h
    simp at h
    have ih := vl_lt l i (by omega) (by simpa using h.1)
    rw [vl_succ hg, Nat.pow_succ]
    have := h.2
    simp [isD] at this
    omega
theorem dec_snoc {n : Nat} (h : ¬ n < 10) : Lib.decDigits n = Lib.decDigits (n / 10) ++ [UInt8.ofNat (48 + n % 10)] := by
  conv => lhs; rw [Lib.decDigits]
  rw [dif_neg h]
theorem dec_small {n : Nat} (h : n < 10) : Lib.decDigits n = [UInt8.ofNat (48 + n)] := by
  rw [Lib.decDigits, dif_pos h]
theorem dig_back {d : UInt8} (h : isD d = true) : UInt8.ofNat (48 + (d.toNat - 48)) = d := by
  simp [isD] at h
  rw [show 48 + (d.toNat - 48) = d.toNat by omega]
  exact UInt8.ofNat_toNat
theorem dec_ne (n : Nat) : Lib.decDigits n ≠ [] := by
  rw [Lib.decDigits]
  split <;> simp
theorem dec_head : ∀ (n : Nat) (t : List UInt8), Lib.decDigits n = 48 :: t → n = 0 ∧ t = [] := by
  intro n
  induction n using Nat.strongRecOn with
  | _ n ih =>
    intro t h
    by_cases hs : n < 10
    · rw [dec_small hs] at h
      obtain ⟨h1, h2⟩ := List.cons.inj h
      refine ⟨?_, h2.symm⟩
      have h1 := congrArg UInt8.toNat h1
      simp at h1
      omega
    · rw [dec_snoc hs] at h
      cases hq : Lib.decDigits (n / 10) with
      | nil => exact absurd hq (dec_ne _)
      | cons a q =>
        rw [hq] at h
        obtain ⟨h1, h2⟩ := List.cons.inj h
        have := (ih (n / 10) (by omega) q (by rw [hq, h1])).1
        omega
def hd0 (l : List UInt8) : Bool := decide (l.length = 1) || !(l[0]? == some 48)
theorem dec_vl : ∀ (l : List UInt8), l ≠ [] → l.all isD = true → hd0 l = true → Lib.decDigits (vlF l) = l ∧ (l[0]? ≠ some 48 → 1 ≤ vlF l) := by
  intro l
  induction hn : l.length generalizing l with
  | zero => intro h; exact absurd (List.length_eq_zero_iff.1 hn) h
  | succ k ih =>
    intro h0 hd hh
    rcases List.eq_nil_or_concat l with e | ⟨m, d, e⟩
    · exact absurd e h0
    · rw [List.concat_eq_append] at e
      subst e
      rw [List.all_append] at hd
      simp at hd
      have hdd := dig_back hd.2
      have hd2 := hd.2
      simp [isD] at hd2
      rw [vlF_snoc]
      by_cases hm : m = []
      · subst hm
        have e0 : vlF [] = 0 := rfl
        rw [e0, Nat.mul_zero, Nat.zero_add]
        refine ⟨by rw [dec_small (by omega), hdd]; rfl, fun hne => ?_⟩
        have : d ≠ 48 := fun e => hne (by rw [e]; rfl)
        have : d.toNat ≠ 48 := fun e => this (UInt8.toNat_inj.1 (by rw [e]; rfl))
        omega
      · have hml : m.length = k := by simp at hn; exact hn
        have hm1 : 1 ≤ m.length := by
          cases m with
          | nil => exact absurd rfl hm
          | cons a q => simp
        have h00 : (m ++ [d])[0]? = m[0]? := by rw [List.getElem?_append_left (by omega)]
        have hne : m[0]? ≠ some 48 := by
          intro e2
          unfold hd0 at hh
          rw [h00, e2] at hh
          simp at hh
          exact hm hh
        obtain ⟨i1, i2⟩ := ih m hml hm (by simpa using hd.1) (by simp [hd0]; right; exact hne)
        have hp := i2 hne
        refine ⟨?_, fun _ => by omega⟩
        rw [dec_snoc (by omega), show (10 * vlF m + (d.toNat - 48)) / 10 = vlF m by omega, show (10 * vlF m + (d.toNat - 48)) % 10 = d.toNat - 48 by omega, i1, hdd]
theorem fmt_nat (n : Nat) : fmtI (n : Int) = bs (Lib.decDigits n) := by
  unfold fmtI Lib.itoa
  rw [if_neg (by omega)]
  rfl
theorem vl_all (l : List UInt8) : vl l l.length = vlF l := by rw [vl, List.take_length]
theorem bs_inj {a b : List UInt8} (h : bs a = bs b) : a = b := by
  have := congrArg (fun s : ByteArray => s.data.toList) h
  simpa [bs] using this
def pOk (l : List UInt8) : Bool := decide (1 ≤ l.length) && decide (l.length ≤ 13) && l.all isD && hd0 l && decide (vlF l ≤ 1000000000000)
def pV (l : List UInt8) : Int := if pOk l = true then (vlF l : Int) else 0
theorem pOk_iff (l : List UInt8) : pOk l = true ↔ 1 ≤ l.length ∧ l.length ≤ 13 ∧ l.all isD = true ∧ hd0 l = true ∧ vlF l ≤ 1000000000000 := by
  unfold pOk
  simp only [Bool.and_eq_true, decide_eq_true_eq]
  constructor
  · rintro ⟨⟨⟨⟨a, b⟩, c⟩, d⟩, e⟩; exact ⟨a, b, c, d, e⟩
  · rintro ⟨a, b, c, d, e⟩; exact ⟨⟨⟨⟨a, b⟩, c⟩, d⟩, e⟩
theorem pV_no {l : List UInt8} (h : pOk l = false) : pV l = 0 := by rw [pV, if_neg (by rw [h]; decide)]
theorem pV_yes {l : List UInt8} (h : pOk l = true) : pV l = (vlF l : Int) := by rw [pV, if_pos h]
theorem pOk_nil : pOk [] = false := rfl
theorem pOk_comma {l : List UInt8} {i : Nat} (h : l[i]? = some 44) : pOk l = false := by
  cases hq : pOk l with
  | false => rfl
  | true =>
    have := (pOk_iff l).1 hq
    have h2 := List.all_eq_true.1 this.2.2.1 44 (List.mem_of_getElem? h)
    exact absurd h2 (by decide)
theorem pV_fmt {l : List UInt8} (h : pOk l = true) : fmtI (pV l) = bs l := by
  obtain ⟨h1, _, h3, h4, _⟩ := (pOk_iff l).1 h
  rw [pV_yes h, fmt_nat, (dec_vl l (fun e => by rw [e] at h1; simp at h1) h3 h4).1]
theorem pV_bd (l : List UInt8) : 0 ≤ pV l ∧ pV l ≤ 1000000000000 := by
  cases h : pOk l with
  | false => rw [pV_no h]; decide
  | true =>
    have := ((pOk_iff l).1 h).2.2.2.2
    rw [pV_yes h]
    omega
theorem i64_of {n : Int} (h0 : -9223372036854775808 ≤ n) (h1 : n ≤ 9223372036854775807) : i64 n := by
  have e1 : IntKind.i64.min = -9223372036854775808 := rfl
  have e2 : IntKind.i64.max = 9223372036854775807 := rfl
  simp [i64, Lit.wf, e1, e2]
  omega
theorem hd0_fmt {l : List UInt8} (h1 : 1 ≤ l.length) (h3 : l.all isD = true) : (fmtI (vlF l : Int) = bs l) ↔ hd0 l = true := by
  rw [fmt_nat]
  constructor
  · intro h
    have h := bs_inj h
    cases hq : hd0 l with
    | true => rfl
    | false =>
      simp [hd0] at hq
      cases l with
      | nil => simp at h1
      | cons a t =>
        simp at hq
        obtain ⟨hq1, hq2⟩ := hq
        subst hq2
        have := (dec_head _ t h).2
        rw [this] at hq1
        simp at hq1
  · intro h
    rw [(dec_vl l (fun e => by rw [e] at h1; simp at h1) h3 h).1]
def pA (p : List UInt8) : List UInt8 := (Lib.cut p [44]).1
def pB (p : List UInt8) : List UInt8 := (Lib.cut p [44]).2.1
def ptOk (p : List UInt8) : Bool := pOk (pA p) && pOk (pB p)
def ptV (p : List UInt8) : TPoint := ⟨pV (pA p), pV (pB p)⟩
theorem ptV_ok (p : List UInt8) : (ptV p).ok := by
  have h1 := pV_bd (pA p)
  have h2 := pV_bd (pB p)
  exact ⟨i64_of (by show _ ≤ pV (pA p); omega) (by show pV (pA p) ≤ _; omega), i64_of (by show _ ≤ pV (pB p); omega) (by show pV (pB p) ≤ _; omega)⟩
theorem pt_two (p : List UInt8) : ((fds 44 p).length ≠ 2 ∧ ptOk p = false) ∨ ((fds 44 p).length = 2 ∧ (fds 44 p)[0]? = some (pA p) ∧ (fds 44 p)[1]? = some (pB p)) := by
  rcases cut_fds 44 p with ⟨h1, h2⟩ | ⟨i, h0, h1, h2⟩
  · left
    refine ⟨by rw [h1]; simp, ?_⟩
    unfold ptOk pB
    rw [h2]
    simp [pOk_nil]
  · rcases cut_fds 44 (p.drop (i + 1)) with ⟨g1, _⟩ | ⟨j, g0, g1, _⟩
    · right
      rw [h1, g1]
      unfold pA pB
      rw [h2]
      exact ⟨rfl, rfl, rfl⟩
    · left
      have hl := (fds_len 44 ((p.drop (i + 1)).drop (j + 1))).1
      refine ⟨by rw [h1, g1, List.length_cons, List.length_cons]; omega, ?_⟩
      unfold ptOk pB
      rw [h2, pOk_comma g0, Bool.and_false]
theorem pt_fmt {p : List UInt8} (h : ptOk p = true) : ptT (ptV p) = bs p := by
  unfold ptOk at h
  rw [Bool.and_eq_true] at h
  obtain ⟨ha, hb⟩ := h
  unfold ptT ptV
  rw [pV_fmt ha, pV_fmt hb]
  rcases cut_fds 44 p with ⟨_, h2⟩ | ⟨i, h0, _, h2⟩
  · unfold pB at hb; rw [h2] at hb; exact absurd (pOk_nil.symm.trans hb) (by decide)
  · have hp : p = pA p ++ 44 :: pB p := by
      unfold pA pB
      rw [h2]
      have hi : i < p.length := (List.getElem?_eq_some_iff.1 h0).1
      have e : p.drop i = 44 :: p.drop (i + 1) := by
        rw [List.drop_eq_getElem_cons hi]
        rw [List.getElem?_eq_getElem hi] at h0
        rw [Option.some.inj h0]
      have := (List.take_append_drop i p).symm
      rw [e] at this
      exact this
    conv => rhs; rw [hp]
    rw [show (⟨#[44]⟩ : ByteArray) = bs [44] from rfl, bs_append, bs_append]
    simp
def ppOk (l : List UInt8) : Bool := decide ((fds 59 l).length ≤ 10) && (fds 59 l).all ptOk
def ppV (l : List UInt8) : List TPoint := if ppOk l = true then (fds 59 l).map ptV else []
theorem ppV_len (l : List UInt8) : (ppV l).length ≤ 10 := by
  unfold ppV
  split
  · rename_i h
    simp [ppOk] at h
    simp
    exact h.1
  · simp
theorem pts_back {l : List UInt8} (h : (fds 59 l).all ptOk = true) : ptsT ((fds 59 l).map ptV) = bs l := by
  have h1 := (fds_len 59 l).1
  unfold ptsT
  have e : ((fds 59 l).map ptV).map ptT = (fds 59 l).map bs := by
    rw [List.map_map]
    exact List.map_congr_left fun p hp => pt_fmt (List.all_eq_true.1 h p hp)
  rw [e, joinR_join (by simp; intro e2; rw [e2] at h1; simp at h1)]
  have e2 : ((fds 59 l).map bs).map (fun s : ByteArray => s.data.toList) = fds 59 l := by
    rw [List.map_map]
    exact (List.map_congr_left fun p _ => by simp [bs]).trans (List.map_id' _)
  rw [e2]
  exact congrArg bs (fds_join 59 l)

end Go.Proofs.YtfbanjdfihdngaaDoor.Abs

/- The laws' converters, what they make as rows of our own; the marks and their tests. -/
namespace Go.Proofs.YtfbanjdfihdngaaDoor.Abs
open Go.Proofs Go.RowKit
set_option linter.unusedVariables false
set_option linter.unusedSimpArgs false
set_option maxRecDepth 100000
set_option maxHeartbeats 2000000
attribute [local irreducible] OpA AL AW DL DLM DLR DLS QOp POp VCalls VCallsI
def ctL {α : Type} (ct : α → Nat) : List α → Nat
  | [] => 0
  | x :: l => ct x + ctL ct l
def mkL {α : Type} (mk : Int → α → α) (ct : α → Nat) : Int → List α → List α
  | _, [] => []
  | k, x :: l => mk k x :: mkL mk ct (k + (ct x : Nat)) l
def mkd {α : Type} (mk : Int → α → α) (ct : α → Nat) (k : Int) (l : List α) (i : Nat) : List α := mkL mk ct k (l.take i) ++ l.drop i
section
variable {α : Type} {mk : Int → α → α} {ct : α → Nat} {l : List α} {i : Nat} {x : α}
theorem ctL_app : ∀ (a b : List α), ctL ct (a ++ b) = ctL ct a + ctL ct b
  | [], b => by simp [ctL]
  | x :: a, b => by rw [List.cons_append, ctL, ctL, ctL_app a b]; omega
theorem mkL_len : ∀ (k : Int) (l : List α), (mkL mk ct k l).length = l.length
  | _, [] => rfl
  | k, x :: l => by rw [mkL, List.length_cons, List.length_cons, mkL_len]
theorem mkL_app : ∀ (k : Int) (a b : List α), mkL mk ct k (a ++ b) = mkL mk ct k a ++ mkL mk ct (k + (ctL ct a : Nat)) b
  | k, [], b => by simp [mkL, ctL]
  | k, x :: a, b => by
    rw [List.cons_append, mkL, mkL, mkL_app, List.cons_append, ctL]
    have e : k + ((ct x : Nat) : Int) + ((ctL ct a : Nat) : Int) = k + ((ct x + ctL ct a : Nat) : Int) := by omega
    rw [e]
theorem ctL_take (h : l[i]? = some x) : ctL ct (l.take (i + 1)) = ctL ct (l.take i) + ct x := by rw [take_succ_of h, ctL_app, ctL, ctL]; omega
theorem ctL_le (h : l[i]? = some x) : ctL ct (l.take i) + ct x ≤ ctL ct l := by
  rw [← ctL_take h]
  have := ctL_app (ct := ct) (l.take (i + 1)) (l.drop (i + 1))
  rw [List.take_append_drop] at this
  omega
theorem len_ctL (h1 : ∀ x, 1 ≤ ct x) : ∀ l : List α, l.length ≤ ctL ct l
  | [] => Nat.le_refl _
  | x :: l => by rw [List.length_cons, ctL]; have := len_ctL h1 l; have := h1 x; omega
theorem mkd_zero {k : Int} : mkd mk ct k l 0 = l := by simp [mkd, mkL]
theorem mkd_all {k : Int} : mkd mk ct k l l.length = mkL mk ct k l := by simp [mkd]
theorem mkd_len {k : Int} (h : i ≤ l.length) : (mkd mk ct k l i).length = l.length := by
  simp [mkd, mkL_len]
  omega
theorem mkd_get {k : Int} (h : l[i]? = some x) : (mkd mk ct k l i)[i]? = some x := by
  have hlt : i < l.length := (List.getElem?_eq_some_iff.1 h).1
  rw [mkd, List.getElem?_append_right (by rw [mkL_len, List.length_take]; omega), mkL_len, List.length_take, List.getElem?_drop, ← h]
  congr 1
  omega
theorem mkd_succ {k : Int} (h : l[i]? = some x) : mkd mk ct k l (i + 1) = (mkd mk ct k l i).set i (mk (k + (ctL ct (l.take i) : Nat)) x) := by
  have hlt : i < l.length := (List.getElem?_eq_some_iff.1 h).1
  have hl : (mkL mk ct k (l.take i)).length = i := by rw [mkL_len, List.length_take]; omega
  have hd : l.drop i = x :: l.drop (i + 1) := by
    rw [List.getElem?_eq_getElem hlt] at h
    rw [List.drop_eq_getElem_cons hlt, Option.some.inj h]
  rw [mkd, mkd, List.set_append, if_neg (by omega), hl, Nat.sub_self, hd, List.set_cons_zero, take_succ_of h, mkL_app, mkL, mkL, List.append_assoc]
  rfl
theorem mkL_get {k : Int} (h : l[i]? = some x) : (mkL mk ct k l)[i]? = some (mk (k + (ctL ct (l.take i) : Nat)) x) := by
  have hlt : i < l.length := (List.getElem?_eq_some_iff.1 h).1
  have e : mkL mk ct k l = mkd mk ct k l l.length := mkd_all.symm
  have e2 := mkL_app (mk := mk) (ct := ct) k (l.take (i + 1)) (l.drop (i + 1))
  rw [List.take_append_drop] at e2
  rw [e2, take_succ_of h, mkL_app, List.append_assoc, List.getElem?_append_right (by rw [mkL_len, List.length_take]; omega), mkL_len, List.length_take]
  have e3 : i - min i l.length = 0 := by omega
  rw [e3, mkL]
  rfl
end
theorem ctL_bd {α : Type} {ct : α → Nat} {c : Nat} : ∀ {l : List α}, (∀ x ∈ l, ct x ≤ c) → ctL ct l ≤ l.length * c
  | [], _ => by simp [ctL]
  | x :: l, h => by
    rw [ctL, List.length_cons, Nat.add_mul]
    have h1 := h x List.mem_cons_self
    have h2 := ctL_bd (ct := ct) (c := c) (l := l) (fun y hy => h y (List.mem_cons_of_mem _ hy))
    omega
theorem set_self_of {α : Type} {A : List α} {i : Nat} {r : α} (h : A[i]? = some r) : A.set i r = A := by
  obtain ⟨hlt, rfl⟩ := List.getElem?_eq_some_iff.1 h
  exact List.set_getElem_self hlt
theorem toNat_ix (i : Nat) : ((i : Int)).toNat = i := Int.toNat_natCast i
def TPoint.ct (x : TPoint) : Nat := 2
def TPoint.mrk (k : Int) (x : TPoint) : TPoint := ⟨k, k + 1⟩
theorem TPoint.ct_pos (x : TPoint) : 1 ≤ x.ct := by unfold TPoint.ct; omega
theorem markPointS (ty : TypeId) (l : List TPoint) (k : Int) (h0 : 0 ≤ k) (hb : k + ((ctL TPoint.ct l : Nat) : Int) ≤ 4611686018427387904) : ACalls Tryd.prog 7 [.own 0 0, I k] [some ⟨ty, 2, 0, false, l.map TPoint.en⟩] (fun r M => r = I (k + ((ctL TPoint.ct l : Nat) : Int)) ∧ ∃ Mx, M = [(⟨ty, 2, 0, false, (mkL TPoint.mrk TPoint.ct k l).map TPoint.en⟩ : Blk)].map some ++ Mx) := by
  have hll := len_ctL TPoint.ct_pos l
  refine ACalls.body Tryd.func7 rfl 25 rfl (fun E hE => ?_)
  simp only [List.reduceReplicate, List.cons_append, List.nil_append]
  repeat' ((first
    | (refine iAL ?_; first | refine AL.any ?_ | refine AL.nil ?_)
    | (refine iAW ?_; first | (refine AW.c0 ?_; constructor) | (refine AW.loopE (fun i : Nat => [.own 0 0, I (k + ((ctL TPoint.ct (l.take i) : Nat) : Int)), .any, .any, .any, I (i : Int), .any, .any, .any, .any, .any, .any, .any, .any, .any, .any, .any, .any, .any, .any, .any, .any, .any, .any, .any, .any, .any]) (fun i => [some ⟨ty, 2, 0, false, (mkd TPoint.mrk TPoint.ct k l i).map TPoint.en⟩]) (fun i => by rw [hE]; exact Nat.le_refl _) (fun i => l.length - i) (fun i => i ≤ l.length) 0 (Nat.zero_le _) ?_ (by rw [mkd_zero] <;> rfl) ?_) | refine AW.cT ?_ | refine AW.cF ?_ | (refine AW.c2 ?_ ?_ <;> (intro h; try simp only [bT, bF] at h)))
    | with_reducible refine ifP ?_
    | with_reducible refine ifN ?_) <;> (try dsimp only))
  · (repeat' (first | exact Wk.nil | refine Wk.any ?_ | (with_reducible refine Wk.same ?_) | refine Wk.of ?_ ?_)) <;> first | rfl | (simp [ctL])
  · intro i hi
    by_cases hlt : i < l.length
    · obtain ⟨x, hx⟩ : ∃ x, l[i]? = some x := ⟨_, List.getElem?_eq_getElem hlt⟩
      have hn := next_ix hlt (by omega)
      obtain ⟨K, hK⟩ : ∃ K, K = k + ((ctL TPoint.ct (l.take i) : Nat) : Int) := ⟨_, rfl⟩
      rw [← hK]
      have hct := ctL_le (ct := TPoint.ct) hx
      have hcs := ctL_take (ct := TPoint.ct) hx
      have hcx : TPoint.ct x = 2 := rfl
      have hw0 : IntKind.i64.wrap (K + 1) = K + 1 := w64 (by omega) (by omega)
      have hw1 : IntKind.i64.wrap (K + 1 + 1) = K + 1 + 1 := w64 (by omega) (by omega)
      have hend : K + 1 + 1 = k + ((ctL TPoint.ct (l.take (i + 1)) : Nat) : Int) := by omega
      have hms : (mkd TPoint.mrk TPoint.ct k l (i + 1)).map TPoint.en = ((mkd TPoint.mrk TPoint.ct k l i).map TPoint.en).set ((i : Int)).toNat (TPoint.en (TPoint.mrk K x)) := by rw [mkd_succ hx, List.map_set, toNat_ix, hK]
      obtain ⟨A, hA⟩ : ∃ A, A = (mkd TPoint.mrk TPoint.ct k l i).map TPoint.en := ⟨_, rfl⟩
      rw [← hA] at hms
      have hAl : A.length = l.length := by rw [hA, List.length_map, mkd_len hi]
      have hix : ((i : Int)).toNat < A.length := by rw [toNat_ix]; omega
      have hself : A.set ((i : Int)).toNat (TPoint.en x) = A := by
        rw [toNat_ix]
        exact set_self_of (by rw [hA, List.getElem?_map, mkd_get hx]; rfl)
      have htA : ∀ r : List AV, decide ((i : Int) < ((A.set ((i : Int)).toNat r).length : Int)) = true := fun r => by rw [List.length_set]; simp; omega
      rw [← hA, ← hself]
      dsimp only [TPoint.en]
      repeat' ((first
        | (refine iAL ?_; first | refine AL.any ?_ | refine AL.nil ?_)
        | (refine iAW ?_; first | (rw [hw0]) | (rw [hw1]) | (refine AW.c0 ?_; constructor) | (refine AW.cT ?_ (hb := htA _)) | (refine AW.cF ?_ (hb := htA _)) | refine AW.cT ?_ | refine AW.cF ?_ | (refine AW.c2 ?_ ?_ <;> (intro h; try simp only [bT, bF] at h)))
        | with_reducible refine ifP ?_
        | with_reducible refine ifN ?_) <;> (try dsimp only))
      all_goals (refine ⟨i + 1, [], hlt, by omega, ?_, ?_, ?_, ?_⟩; (focus ((repeat' (first | exact Wk.nil | refine Wk.any ?_ | (with_reducible refine Wk.same ?_) | refine Wk.of ?_ ?_)) <;> first | rfl | (rw [hend]) | (rw [hn]))); (focus (rw [hms] <;> rfl)); (focus ((repeat' (first | exact Fits.nil _ | refine Fits.cons ?_ ?_ | exact Fits.any _ | exact Fits.c _ _ | exact Fits.own (by rfl) | exact Fits.ref (by rfl) | exact Fits.clo (by assumption) | exact Fits.clo (clo_of (by rfl)) | exact Fits.clo (clo_fn _))))); (focus (exact fits_dcl (DCl.map (fun _ => rfl)))))
    · have e : i = l.length := by omega
      subst e
      have hml : (mkd TPoint.mrk TPoint.ct k l l.length).length = l.length := mkd_len (Nat.le_refl _)
      have ht : decide ((l.length : Int) < ((((mkd TPoint.mrk TPoint.ct k l l.length).map TPoint.en).length : Nat) : Int)) = false := by rw [List.length_map, hml]; simp
      rw [List.take_length]
      repeat' ((first
        | (refine iAL ?_; first | refine AL.any ?_ | refine AL.nil ?_)
        | (refine iAW ?_; first | (refine AW.c0 ?_; constructor) | (refine AW.cT ?_ (hb := ht)) | (refine AW.cF ?_ (hb := ht)) | refine AW.cT ?_ | refine AW.cF ?_ | (refine AW.c2 ?_ ?_ <;> (intro h; try simp only [bT, bF] at h)))
        | with_reducible refine ifP ?_
        | with_reducible refine ifN ?_) <;> (try dsimp only))
      all_goals exact FinA.one rfl (RV.tmp (by rfl)) ⟨rfl, [], by rw [mkd_all] <;> rfl⟩

theorem heldPointS (l : List TPoint) (k : Int) (h0 : 0 ≤ k) (hb : k + ((ctL TPoint.ct l : Nat) : Int) ≤ 4611686018427387904) : VCalls Tryd.prog 8 [.ro 2 ((mkL TPoint.mrk TPoint.ct k l).map TPoint.en), I k] (fun r M => r = I (k + ((ctL TPoint.ct l : Nat) : Int)) ∧ M = []) := by
  have hll := len_ctL TPoint.ct_pos l
  have hclo : Clo (.ro 2 ((mkL TPoint.mrk TPoint.ct k l).map TPoint.en)) := clo_list TPoint.clo_en
  refine VCalls.bodyE Tryd.func8 rfl 29 rfl (fun E hE => ?_)
  simp only [List.reduceReplicate, List.cons_append, List.nil_append]
  repeat' ((first
    | (refine iAL ?_; first | refine AL.any ?_ | refine AL.nil ?_)
    | (refine iAW ?_; first | (refine AW.c0 ?_; constructor) | (refine AW.loopD hE (fun i : Nat => [.ro 2 ((mkL TPoint.mrk TPoint.ct k l).map TPoint.en), I (k + ((ctL TPoint.ct (l.take i) : Nat) : Int)), .any, .any, .any, I (i : Int), .any, .any, .any, .any, .any, .any, .any, .any, .any, .any, .any, .any, .any, .any, .any, .any, .any, .any, .any, .any, .any, .any, .any, .any, .any]) (fun i => []) (fun i => l.length - i) (fun i => i ≤ l.length) 0 (Nat.zero_le _) ?_ rfl ?_) | refine AW.cT ?_ | refine AW.cF ?_ | (refine AW.c2 ?_ ?_ <;> (intro h; try simp only [bT, bF] at h)))
    | with_reducible refine ifP ?_
    | with_reducible refine ifN ?_) <;> (try dsimp only))
  · (repeat' (first | exact Wk.nil | refine Wk.any ?_ | (with_reducible refine Wk.same ?_) | refine Wk.of ?_ ?_)) <;> first | rfl | (simp [ctL])
  · intro i hi
    by_cases hlt : i < l.length
    · obtain ⟨x, hx⟩ : ∃ x, l[i]? = some x := ⟨_, List.getElem?_eq_getElem hlt⟩
      have hn := next_ix hlt (by omega)
      obtain ⟨K, hK⟩ : ∃ K, K = k + ((ctL TPoint.ct (l.take i) : Nat) : Int) := ⟨_, rfl⟩
      rw [← hK]
      have hct := ctL_le (ct := TPoint.ct) hx
      have hcs := ctL_take (ct := TPoint.ct) hx
      have hgm := map_get (f := TPoint.en) (mkL_get (mk := TPoint.mrk) (ct := TPoint.ct) (k := k) hx)
      rw [← hK] at hgm
      dsimp only [TPoint.mrk, TPoint.en] at hgm
      have hcx : TPoint.ct x = 2 := rfl
      have hw0 : IntKind.i64.wrap (K + 1) = K + 1 := w64 (by omega) (by omega)
      have hw1 : IntKind.i64.wrap (K + 1 + 1) = K + 1 + 1 := w64 (by omega) (by omega)
      have hend : K + 1 + 1 = k + ((ctL TPoint.ct (l.take (i + 1)) : Nat) : Int) := by omega
      have ht : decide ((i : Int) < ((((mkL TPoint.mrk TPoint.ct k l).map TPoint.en).length : Nat) : Int)) = true := by rw [List.length_map, mkL_len]; simp; omega
      repeat' ((first
        | (refine iAL ?_; first | refine AL.any ?_ | refine AL.nil ?_)
        | (refine iAW ?_; first | (rw [hw0]) | (rw [hw1]) | (refine AW.c0 ?_; constructor) | refine AW.cT ?_ | refine AW.cF ?_ | (refine AW.c2 ?_ ?_ <;> (intro h; try simp only [bT, bF] at h)))
        | with_reducible refine ifP ?_
        | with_reducible refine ifN ?_) <;> (try dsimp only))
      all_goals (refine ⟨i + 1, [], hlt, by omega, ?_, rfl, ?_, ?_⟩; (focus ((repeat' (first | exact Wk.nil | refine Wk.any ?_ | (with_reducible refine Wk.same ?_) | refine Wk.of ?_ ?_)) <;> first | rfl | (rw [hend]) | (rw [hn]))); (focus ((repeat' (first | exact Fits.nil _ | refine Fits.cons ?_ ?_ | exact Fits.any _ | exact Fits.c _ _ | exact Fits.own (by rfl) | exact Fits.ref (by rfl) | exact Fits.clo (by assumption) | exact Fits.clo (clo_of (by rfl)) | exact Fits.clo (clo_fn _))))); (focus (exact FitsM.nil _)))
    · have e : i = l.length := by omega
      subst e
      have ht : decide ((l.length : Int) < ((((mkL TPoint.mrk TPoint.ct k l).map TPoint.en).length : Nat) : Int)) = false := by rw [List.length_map, mkL_len]; simp
      rw [List.take_length]
      repeat' ((first
        | (refine iAL ?_; first | refine AL.any ?_ | refine AL.nil ?_)
        | (refine iAW ?_; first | (refine AW.c0 ?_; constructor) | refine AW.cT ?_ | refine AW.cF ?_ | (refine AW.c2 ?_ ?_ <;> (intro h; try simp only [bT, bF] at h)))
        | with_reducible refine ifP ?_
        | with_reducible refine ifN ?_) <;> (try dsimp only))
      all_goals exact Fin.one rfl (RV.tmp (by rfl)) (clo_c _) ⟨rfl, rfl⟩

theorem ctL_pt (l : List TPoint) : ctL TPoint.ct l ≤ l.length * 2 := ctL_bd fun _ _ => Nat.le_refl 2
end Go.Proofs.YtfbanjdfihdngaaDoor.Abs

/- What strings.Split and strings.Cut give. -/
namespace Go.Proofs.YtfbanjdfihdngaaDoor.Abs
open Go.Proofs Go.RowKit
set_option linter.unusedVariables false
set_option linter.unusedSimpArgs false
set_option maxRecDepth 100000
set_option maxHeartbeats 2000000
def CellI (w : World) : Prop := ∃ m : Int, w.cell? ⟨0, 0, none⟩ = some (.int .i64 m)
theorem CellI.keeps {w : World} {base : Nat} (h : CellI w) (h0 : 0 < base) : Keeps CellI base w := fun w' hb => by
  obtain ⟨m, hm⟩ := h
  exact ⟨m, by rw [World.cell?_of_block (hb.block 0 h0)]; exact hm⟩
section
variable {P : Program} {I : World → Prop} {E : Env} {tm : List AV} {M : Mem} {o : Oper}
theorem VCallsI.frz {f : FuncId} {args : List AV} {r0 r1 : AV} {Ms : Mem} (h : VCallsI P I f args (fun r M => r = r0 ∧ M = Ms)) (hv : VwL Ms [r0] [r1]) : VCallsI P I f args (fun r M => r = r1 ∧ M = []) := by
  intro E vals hK hM hh hsl
  refine (h E vals hK hM hh hsl).mono ?_
  rintro e w' ⟨v, r, M', Fx, β, rfl, ⟨rfl, rfl⟩, hh', ho, hrep⟩
  have hview := hv.get.2 0 r r1 rfl rfl
  have hE0 : gens E.M = [] := by rw [hM]; rfl
  have hmem : ∀ (id : Nat) (b : Blk) (v : Hd) k, M'[id]? = some (some b) → β[id]? = some v → v.has k → E.win.heap.size ≤ k := fun id b v k h1 h2 h3 => by
    rcases ho.own id b v k h1 h2 h3 with h | ⟨id', b', v', h4, _⟩
    · exact h
    · rw [hM] at h4; simp at h4
  refine ⟨v, r1, [], fun k => Fx k ∨ ∃ (id : Nat) (b : Blk) (v : Hd), M'[id]? = some (some b) ∧ β[id]? = some v ∧ v.has k, [], rfl, ⟨rfl, rfl⟩, ⟨hh'.bel, hh'.bs, fun k hk => ?_, rfl, fun id b h => by simp at h, fun i1 i2 b1 b2 v1 v2 k _ h => by simp at h⟩,
    ⟨⟨fun k hk => .inl (ho.mv.fx k hk), ho.mv.heap, by rw [hE0]; exact Nat.zero_le _, fun id g' hid => by rw [hE0] at hid; simp at hid⟩, ho.size, fun k hk => ?_, fun id b v k h => by simp at h⟩, ?_⟩
  · rcases hk with hk | ⟨id, b, v, h1, h2, h3⟩
    · exact hh'.fx k hk
    · obtain ⟨v2, h4, h5⟩ := hh'.blk id b h1
      rw [h2] at h4
      obtain rfl := Option.some.inj h4
      exact (h5.1 k h3).2.1
  · rcases hk with hk | ⟨id, b, v, h1, h2, h3⟩
    · exact ho.lim k hk
    · exact .inr (.inl (hmem id b v k h1 h2 h3))
  · exact hview _ _ _ _ _ _ _ hh' (fun k h => .inl h) (fun id b v k h1 h2 h3 => .inr ⟨id, b, v, h1, h2, h3⟩) hrep
theorem POp.kIo {f : FuncId} {fn : Func} {args : Array Operand} {ts : Array TypeId} {vs vs' : List AV} {r r1 : AV} {Ms M1 : Mem} (hK : Keeps I E.base E.w0) (hf : P.funcs[f]? = some fn) (ho : o.op = .call { callee := .value (.func f), args := args, argTypes := ts })
    (hn : (fn.name == "runtime.NumGoroutine") = false) (hb : fn.body.isSome = true) (ha : args.toList.mapM (evA tm) = some vs) (hvw : VwL M vs vs')
    (hc : VCallsI P I f vs' (fun r' M' => r' = r ∧ M' = Ms)) (hr : lfA r = true) (hms : rowsOk Ms) (er : shA M.length r = r1) (em : M ++ Ms = M1) : POp P o E tm M r1 M1 := by
  subst er em
  refine POp.vcallI true (fun a w Fx β hh hsl => run_call ho hf hn hb) ha hvw.get.1 (fun i x x' hx hx' => ⟨hvw.get.2 i x x' hx hx', fun h => by cases h⟩) hK hc (fun r' M' hR => ?_)
  obtain ⟨rfl, rfl⟩ := hR
  exact ⟨fun b hb e he x hx => isCD_clo (hms.get b hb e he x hx), .inr ⟨(lfA_ok (n := 0) hr).2, fun b hb e he x hx => isCD_pur (hms.get b hb e he x hx)⟩, (lfA_ok hr).1, rfl⟩
theorem QOp.sliceS {t : TypeId} {x lo hi : Operand} {s r : ByteArray} {a b : Int} (ho : o.op = .slice t x (some lo) (some hi) none) (ht : P.underlying t = some .string) (hx : sc tm x = some (.string s)) (hl : sc tm lo = some (.int .i64 a)) (hh : sc tm hi = some (.int .i64 b))
    (h0 : 0 ≤ a) (h1 : a ≤ b) (h2 : b ≤ s.size) (hr : s.extract a.toNat b.toNat = r) : QOp P o tm M (.c (.string r)) := QOp.sliceK ho hx hl hh fun w => by
  rw [run_sliceAt_string w t _ _ _ _ ht, run_slice_string w t s .i64 .i64 a b ht h0 h1 h2, hr]
end
abbrev piE (p : List UInt8) : List AV := [S (bs p)]
theorem clo_piE : ∀ p : List UInt8, ∀ x ∈ piE p, Clo x := fun p => clo_cons (clo_c _) clo_nil
theorem split_v (b : UInt8) (l : List UInt8) (hl : l.length ≤ 1048576) : VCallsI Tryd.prog CellI 12 [S (bs l), S ⟨#[b]⟩] (fun r M => r = .own 0 0 ∧ M = [some ⟨9, 1, 0, false, (fds b l).map piE⟩]) := by
  intro E vals hK hM hh hsl
  obtain rfl := Slots.plain (vs := [.string (bs l), .string ⟨#[b]⟩]) hsl
  obtain ⟨m, hm⟩ := hK _ hh.bel
  have hsz : (bs l).size = l.length := bs_size l
  have hfl := fds_len b l
  refine (Tryd.strings_Split (bs l) ⟨#[b]⟩ m E.win (by omega) hm (by simp [ByteArray.size])).mono ?_
  rintro e w' ⟨rfl, rfl⟩
  have e1 := splitB_fds b (bs l)
  have e2 := Lib.splitB_all ⟨#[b]⟩ (by simp [ByteArray.size]) 0 _ (bs l) rfl
  rw [e1, List.length_map] at e2
  rw [e1]
  have e3 : (bs l).data.toList = l := by simp
  rw [e3] at e2 ⊢
  rw [← e2]
  have hβ : E.β = [] := List.length_eq_zero_iff.1 hh.len
  have hrow := hh.addRow (World.grownBy_alloc E.win (.cells (((fds b l).map bs).map Value.string).toArray 9) none) (t := 9) (sz := 1) (v := .slice (some ⟨E.win.heap.size, 0, none⟩) (fds b l).length (fds b l).length) (es := (fds b l).map piE) (xs := ((fds b l).map bs).map Value.string)
    ⟨by simp, .inr ⟨E.win.heap.size, (fds b l).length, (((fds b l).map bs).map Value.string).toArray, by simp, hh.bs, heap_alloc_new E.win _, by simp, by rw [maxLen_eq]; omega, by simp, by simp; exact List.take_of_length_le (by simp)⟩⟩ (fun k hk => by simp [blockOf] at hk; omega)
    ⟨by simp, fun i r hr => by
      rw [List.getElem?_map] at hr
      cases hp : (fds b l)[i]? with
      | none => rw [hp] at hr; cases hr
      | some p =>
        rw [hp] at hr
        obtain rfl := Option.some.inj hr
        refine ⟨rfl, fun j x hx => ?_⟩
        cases j with
        | succ j => simp at hx
        | zero =>
          simp at hx
          subst hx
          exact ⟨.string (bs p), by simp [hp], rfl, .c _⟩⟩
  refine ⟨_, .own 0 0, _, E.Fx, _, rfl, ⟨rfl, rfl⟩, hrow.1, ⟨?_, hrow.2.size, ?_, ?_⟩, ?_⟩
  · rw [hM]; exact hrow.2.mv
  · intro k hk
    exact .inl hk
  · intro id bk v k g1 g2 g3
    rcases hrow.2.own id bk v k g1 g2 g3 with h | ⟨_, _, _, h, _⟩
    · exact .inl h
    · simp at h
  · refine .own rfl (by simp [gens]) (fun g1 hg => by simp [gens] at hg; omega) (fun _ => ⟨Hd.flat _, ?_, rfl⟩)
    rw [hβ]
    rfl
theorem split_r (b : UInt8) (l : List UInt8) (hl : l.length ≤ 1048576) : VCallsI Tryd.prog CellI 12 [S (bs l), S ⟨#[b]⟩] (fun r M => r = .ro 1 ((fds b l).map piE) ∧ M = []) :=
  VCallsI.frz (split_v b l hl) (.cons (View.row (id := 0) (g := 0) (b := ⟨9, 1, 0, false, (fds b l).map piE⟩) rfl rfl rfl (fun r hr x hx => by
    obtain ⟨p, _, rfl⟩ := List.mem_map.1 hr
    exact clo_piE p x hx)) .nil)
theorem cut_v (b : UInt8) (l : List UInt8) (hl : l.length ≤ 1048576) : VCallsI Tryd.prog CellI 13 [S (bs l), S ⟨#[b]⟩] (fun r M => r = .tup [S (bs (Lib.cut l [b]).1), S (bs (Lib.cut l [b]).2.1), B (Lib.cut l [b]).2.2] ∧ M = []) := by
  intro E vals hK hM hh hsl
  obtain rfl := Slots.plain (vs := [.string (bs l), .string ⟨#[b]⟩]) hsl
  obtain ⟨m, hm⟩ := hK _ hh.bel
  have hsz : (bs l).size = l.length := bs_size l
  refine (Tryd.strings_Cut (bs l) ⟨#[b]⟩ m E.win (by omega) hm).mono ?_
  rintro e w' ⟨rfl, n, rfl⟩
  have hb : Below E.win.heap.size E.win (E.win.drewN n) := (Below.refl _ _).trans ⟨rfl, rfl, rfl, Nat.le_refl _, fun _ _ => rfl⟩
  obtain ⟨hh', mv⟩ := hh.step hb
  refine ⟨_, _, [], E.Fx, E.β, rfl, ⟨rfl, rfl⟩, hh', ⟨by rw [hM]; exact mv, hb.size, fun k hk => .inl hk, fun id b v k h1 => by simp at h1⟩, ?_⟩
  refine Rep.tup (us := [.string _, .string _, .bool _]) rfl (fun i x u hx hu => ?_)
  match i, hx, hu with
  | 0, hx, hu => simp at hx hu; subst hx hu; exact .c _
  | 1, hx, hu => simp at hx hu; subst hx hu; exact .c _
  | 2, hx, hu => simp at hx hu; subst hx hu; exact .c _
  | n + 3, hx, hu => simp at hx

end Go.Proofs.YtfbanjdfihdngaaDoor.Abs

/- The walks of the parsers. -/
namespace Go.Proofs.YtfbanjdfihdngaaDoor.Abs
open Go.Proofs Go.RowKit
set_option linter.unusedVariables false
set_option linter.unusedSimpArgs false
set_option maxRecDepth 100000
set_option maxHeartbeats 2000000
attribute [local irreducible] OpA AL AW DL DLM DLR DLS QOp POp VCalls VCallsI
theorem bs_get (l : List UInt8) (i : Nat) : (bs l)[i]? = l[i]? := by
  rcases Nat.lt_or_ge i l.length with h | h
  · rw [getElem?_pos (bs l) i (by rw [bs_size]; exact h), List.getElem?_eq_getElem h]
    simp [bs, ByteArray.getElem_eq_getElem_data]
  · rw [getElem?_neg (bs l) i (by rw [bs_size]; omega), List.getElem?_eq_none h]
theorem u8eq (c b : UInt8) : (((c.toNat : Nat) : Int) == ((b.toNat : Nat) : Int)) = (c == b) := by
  by_cases h : c = b
  · subst h; simp
  · rw [beq_eq_false_iff_ne.2 h, beq_eq_false_iff_ne]
    intro e
    exact h (UInt8.toNat_inj.1 (by omega))
theorem sp_cases {b : UInt8} {cc : Int} (hcc : cc = ((b.toNat : Nat) : Int)) {l : List UInt8} {i : Nat} (hi : i ≤ l.length) :
    (((i : Int) == ((bs l).size : Int)) = true ∧ spA b l (i + 1) = i + 1 ∧ (spO b l (i + 1)).length = (spO b l i).length + 1 ∧ (spO b l (i + 1)).map piE = (spO b l i).map piE ++ [piE ((l.drop (spA b l i)).take (i - spA b l i))]) ∨
    (∃ c, (bs l)[((i : Nat) : Int).toNat]? = some c ∧ ((i : Int) == ((bs l).size : Int)) = false ∧ (((c.toNat : Nat) : Int) == cc) = true ∧ spA b l (i + 1) = i + 1 ∧ (spO b l (i + 1)).length = (spO b l i).length + 1 ∧ (spO b l (i + 1)).map piE = (spO b l i).map piE ++ [piE ((l.drop (spA b l i)).take (i - spA b l i))]) ∨
    (∃ c, (bs l)[((i : Nat) : Int).toNat]? = some c ∧ ((i : Int) == ((bs l).size : Int)) = false ∧ (((c.toNat : Nat) : Int) == cc) = false ∧ spA b l (i + 1) = spA b l i ∧ (spO b l (i + 1)).length = (spO b l i).length ∧ (spO b l (i + 1)).map piE = (spO b l i).map piE) := by
  have yes : isB b l i = true → spA b l (i + 1) = i + 1 ∧ (spO b l (i + 1)).length = (spO b l i).length + 1 ∧ (spO b l (i + 1)).map piE = (spO b l i).map piE ++ [piE ((l.drop (spA b l i)).take (i - spA b l i))] := fun h => by
    rw [spA, if_pos h, spO, if_pos h]
    exact ⟨rfl, by simp, by simp⟩
  have no : isB b l i = false → spA b l (i + 1) = spA b l i ∧ (spO b l (i + 1)).length = (spO b l i).length ∧ (spO b l (i + 1)).map piE = (spO b l i).map piE := fun h => by
    rw [spA, if_neg (by rw [h]; decide), spO, if_neg (by rw [h]; decide)]
    exact ⟨rfl, rfl, rfl⟩
  rcases Nat.lt_or_ge i l.length with h | h
  · have hg : l[i]? = some l[i] := List.getElem?_eq_getElem h
    have hb : isB b l i = (l[i] == b) := by unfold isB; rw [hg]
    have hq : ((i : Int) == ((bs l).size : Int)) = false := by rw [bs_size]; simp; omega
    have hc : (bs l)[((i : Nat) : Int).toNat]? = some l[i] := by rw [Int.toNat_natCast, bs_get, hg]
    cases hx : (l[i] == b)
    · exact .inr (.inr ⟨_, hc, hq, by rw [hcc, u8eq, hx], no (by rw [hb, hx])⟩)
    · exact .inr (.inl ⟨_, hc, hq, by rw [hcc, u8eq, hx], yes (by rw [hb, hx])⟩)
  · have e : i = l.length := by omega
    exact .inl ⟨by rw [bs_size, e]; simp, yes (by unfold isB; rw [List.getElem?_eq_none h])⟩
def inr (a b c : Int) : Bool := decide (b ≤ a) && decide (a ≤ c)
theorem pNo {p : List UInt8} (h : ¬ (1 ≤ p.length ∧ p.length ≤ 13 ∧ p.all isD = true ∧ hd0 p = true ∧ vlF p ≤ 1000000000000)) : pV p = 0 ∧ pOk p = false := by
  have e : pOk p = false := by
    cases hq : pOk p with
    | false => rfl
    | true => exact absurd ((pOk_iff p).1 hq) h
  exact ⟨pV_no e, e⟩
theorem pYes {p : List UInt8} (h : 1 ≤ p.length ∧ p.length ≤ 13 ∧ p.all isD = true ∧ hd0 p = true ∧ vlF p ≤ 1000000000000) : pV p = ((vl p p.length : Nat) : Int) ∧ pOk p = true := by
  have e : pOk p = true := (pOk_iff p).2 h
  exact ⟨by rw [pV_yes e, vl_all], e⟩
theorem len_cases (p : List UInt8) : (inr (((bs p).size : Nat) : Int) 1 13 = false ∧ pV p = 0 ∧ pOk p = false) ∨ (inr (((bs p).size : Nat) : Int) 1 13 = true ∧ 1 ≤ p.length ∧ p.length ≤ 13) := by
  rw [bs_size]
  by_cases h : 1 ≤ p.length ∧ p.length ≤ 13
  · exact .inr ⟨by unfold inr; simp; omega, h⟩
  · exact .inl ⟨by unfold inr; simp; omega, pNo fun g => h ⟨g.1, g.2.1⟩⟩
theorem w8c (c : UInt8) : IntKind.i64.wrap ((c.toNat : Nat) : Int) = ((c.toNat : Nat) : Int) := by
  have := c.toNat_lt
  exact w64 (by omega) (by omega)
theorem dig_in {p : List UInt8} {i : Nat} {c : UInt8} (hc : p[i]? = some c) : (isD c = false ∧ inr (IntKind.i64.wrap ((c.toNat : Nat) : Int)) 48 57 = false ∧ pV p = 0 ∧ pOk p = false) ∨ (isD c = true ∧ inr (IntKind.i64.wrap ((c.toNat : Nat) : Int)) 48 57 = true) := by
  rw [w8c]
  cases h : isD c with
  | true => exact .inr ⟨rfl, by simp [isD] at h; unfold inr; simp; omega⟩
  | false =>
    refine .inl ⟨rfl, by simp [isD] at h; unfold inr; simp; omega, pNo fun g => ?_⟩
    have := List.all_eq_true.1 g.2.2.1 c (List.mem_of_getElem? hc)
    rw [h] at this
    cases this
theorem dig_lt {p : List UInt8} {i : Nat} {c : UInt8} (hc : p[i]? = some c) : (isD c = false ∧ decide (((c.toNat : Nat) : Int) < 48) = true ∧ pV p = 0 ∧ pOk p = false) ∨ (isD c = false ∧ decide (((c.toNat : Nat) : Int) < 48) = false ∧ decide (((c.toNat : Nat) : Int) > 57) = true ∧ pV p = 0 ∧ pOk p = false) ∨ (isD c = true ∧ decide (((c.toNat : Nat) : Int) < 48) = false ∧ decide (((c.toNat : Nat) : Int) > 57) = false) := by
  have bad : isD c = false → pV p = 0 ∧ pOk p = false := fun h => pNo fun g => by
    have := List.all_eq_true.1 g.2.2.1 c (List.mem_of_getElem? hc)
    rw [h] at this
    cases this
  cases h : isD c with
  | true => exact .inr (.inr ⟨rfl, by simp [isD] at h; simp; omega, by simp [isD] at h; simp; omega⟩)
  | false =>
    by_cases h2 : ((c.toNat : Nat) : Int) < 48
    · exact .inl ⟨rfl, decide_eq_true h2, bad h⟩
    · exact .inr (.inl ⟨rfl, decide_eq_false h2, by simp [isD] at h; simp; omega, bad h⟩)
theorem vl_sum {p : List UInt8} {i : Nat} {c : UInt8} (hc : p[i]? = some c) (hd : isD c = true) (hi : i < 13) (ha : (p.take i).all isD = true) :
    IntKind.i64.wrap (IntKind.i64.wrap (10 * ((vl p i : Nat) : Int)) + IntKind.i64.wrap (IntKind.u8.wrap (((c.toNat : Nat) : Int) - 48))) = ((vl p (i + 1) : Nat) : Int) ∧ (p.take (i + 1)).all isD = true := by
  have hil : i < p.length := (List.getElem?_eq_some_iff.1 hc).1
  have h1 := vl_lt p i (by omega) ha
  have h2 : 10 ^ i ≤ 10 ^ 12 := Nat.pow_le_pow_right (by decide) (by omega)
  have h3 : (10 : Nat) ^ 12 = 1000000000000 := by decide
  refine ⟨?_, by rw [take_succ_of hc, List.all_append, ha]; simp [hd]⟩
  simp [isD] at hd
  rw [vl_succ hc, w8 (by omega) (by omega), w64 (n := ((c.toNat : Nat) : Int) - 48) (by omega) (by omega), w64 (n := 10 * ((vl p i : Nat) : Int)) (by omega) (by omega), w64 (by omega) (by omega)]
  omega
theorem all_take {p : List UInt8} (h : (p.take p.length).all isD = true) : p.all isD = true := by rwa [List.take_length] at h
theorem bsl_eq (a b : ByteArray) : (a.toList == b.toList) = decide (a = b) := by
  by_cases h : a = b
  · subst h; simp
  · rw [decide_eq_false h, beq_eq_false_iff_ne]
    intro e
    apply h
    have h1 : a.data.toList = b.data.toList := by rw [ByteArray.toList_eq, ByteArray.toList_eq] at e; exact e
    exact ByteArray.ext (Array.toList_inj.1 h1)
theorem endS {p : List UInt8} (h1 : 1 ≤ p.length) (h2 : p.length ≤ 13) (h3 : (p.take p.length).all isD = true) :
    (decide (((vl p p.length : Nat) : Int) > 1000000000000) = true ∧ pV p = 0 ∧ pOk p = false) ∨
    (decide (((vl p p.length : Nat) : Int) > 1000000000000) = false ∧ ((fmtI ((vl p p.length : Nat) : Int)).toList == (bs p).toList) = false ∧ pV p = 0 ∧ pOk p = false) ∨
    (decide (((vl p p.length : Nat) : Int) > 1000000000000) = false ∧ ((fmtI ((vl p p.length : Nat) : Int)).toList == (bs p).toList) = true ∧ pV p = ((vl p p.length : Nat) : Int) ∧ pOk p = true) := by
  have h3 := all_take h3
  by_cases hb : vlF p ≤ 1000000000000
  · right
    have hd : decide (((vl p p.length : Nat) : Int) > 1000000000000) = false := by rw [vl_all]; simp; omega
    rw [bsl_eq, vl_all]
    rw [vl_all] at hd
    by_cases hf : fmtI ((vlF p : Nat) : Int) = bs p
    · right
      have := pYes ⟨h1, h2, h3, (hd0_fmt h1 h3).1 hf, hb⟩
      rw [vl_all] at this
      exact ⟨hd, decide_eq_true hf, this⟩
    · left
      exact ⟨hd, decide_eq_false hf, pNo fun g => hf ((hd0_fmt h1 h3).2 g.2.2.2.1)⟩
  · left
    exact ⟨by rw [vl_all]; simp; omega, pNo fun g => hb g.2.2.2.2⟩
theorem endI {p : List UInt8} (h1 : 1 ≤ p.length) (h2 : p.length ≤ 13) (h4 : hd0 p = true) (h3 : (p.take p.length).all isD = true) :
    (decide (((vl p p.length : Nat) : Int) > 1000000000000) = true ∧ pV p = 0 ∧ pOk p = false) ∨
    (decide (((vl p p.length : Nat) : Int) > 1000000000000) = false ∧ pV p = ((vl p p.length : Nat) : Int) ∧ pOk p = true) := by
  have h3 := all_take h3
  by_cases hb : vlF p ≤ 1000000000000
  · exact .inr ⟨by rw [vl_all]; simp; omega, pYes ⟨h1, h2, h3, h4, hb⟩⟩
  · exact .inl ⟨by rw [vl_all]; simp; omega, pNo fun g => hb g.2.2.2.2⟩
theorem head_cases (p : List UInt8) : (((((bs p).size : Nat) : Int) == 0) = true ∧ pV p = 0 ∧ pOk p = false) ∨
    (((((bs p).size : Nat) : Int) == 0) = false ∧ decide ((((bs p).size : Nat) : Int) > 13) = true ∧ pV p = 0 ∧ pOk p = false) ∨
    (∃ c, (bs p)[(0 : Int).toNat]? = some c ∧ ((((bs p).size : Nat) : Int) == 0) = false ∧ decide ((((bs p).size : Nat) : Int) > 13) = false ∧ decide ((((bs p).size : Nat) : Int) > 1) = true ∧ (((c.toNat : Nat) : Int) == 48) = true ∧ pV p = 0 ∧ pOk p = false) ∨
    (∃ c, (bs p)[(0 : Int).toNat]? = some c ∧ ((((bs p).size : Nat) : Int) == 0) = false ∧ decide ((((bs p).size : Nat) : Int) > 13) = false ∧ decide ((((bs p).size : Nat) : Int) > 1) = true ∧ (((c.toNat : Nat) : Int) == 48) = false ∧ 1 ≤ p.length ∧ p.length ≤ 13 ∧ hd0 p = true) ∨
    (((((bs p).size : Nat) : Int) == 0) = false ∧ decide ((((bs p).size : Nat) : Int) > 13) = false ∧ decide ((((bs p).size : Nat) : Int) > 1) = false ∧ 1 ≤ p.length ∧ p.length ≤ 13 ∧ hd0 p = true) := by
  rw [bs_size]
  by_cases h0 : p.length = 0
  · exact .inl ⟨by rw [h0]; rfl, pNo fun g => by omega⟩
  · have e0 : (((p.length : Nat) : Int) == 0) = false := by simp; intro e; exact h0 (by rw [e]; rfl)
    right
    by_cases h13 : p.length ≤ 13
    · right
      have e13 : decide (((p.length : Nat) : Int) > 13) = false := by simp; omega
      by_cases h1 : 1 < p.length
      · have e1 : decide (((p.length : Nat) : Int) > 1) = true := by simp; omega
        have hg : p[0]? = some p[0] := List.getElem?_eq_getElem (by omega)
        have hc : (bs p)[(0 : Int).toNat]? = some p[0] := by rw [show (0 : Int).toNat = 0 from rfl, bs_get, hg]
        have hu := u8eq p[0] 48
        rw [show (((48 : UInt8).toNat : Nat) : Int) = 48 from rfl] at hu
        cases hq : (p[0] == 48)
        · exact .inr (.inl ⟨_, hc, e0, e13, e1, by rw [hu, hq], by omega, h13, by
            unfold hd0
            rw [hg]
            have : ¬ (p[0] = 48) := by simpa using hq
            simp [this]⟩)
        · exact .inl ⟨_, hc, e0, e13, e1, by rw [hu, hq], pNo fun g => by
            have := g.2.2.2.1
            unfold hd0 at this
            rw [hg] at this
            have e48 : p[0] = 48 := by simpa using hq
            simp [e48] at this
            omega⟩
      · exact .inr (.inr ⟨e0, e13, by simp; omega, by omega, h13, by unfold hd0; rw [decide_eq_true (by omega : p.length = 1)]; rfl⟩)
    · exact .inl ⟨e0, by simp; omega, pNo fun g => h13 g.2.1⟩
def ppT (l : List UInt8) (i : Nat) : List TPoint := ((fds 59 l).take i).map ptV
def nS (l : List UInt8) : Nat := if (fds 59 l).length ≤ 10 then (fds 59 l).length else 0
theorem ppT_succ {l p : List UInt8} {i : Nat} (h : (fds 59 l)[i]? = some p) : (ppT l (i + 1)).map TPoint.en = (ppT l i).map TPoint.en ++ [[I (pV (pA p)), I (pV (pB p))]] := by
  unfold ppT
  rw [take_succ_of h, List.map_append, List.map_append]
  rfl
theorem ppT_len {l : List UInt8} {i : Nat} (h : i ≤ (fds 59 l).length) : (ppT l i).length = i := by
  unfold ppT
  rw [List.length_map, List.length_take, Nat.min_eq_left h]
theorem ppT_ok (l : List UInt8) (i : Nat) : ∀ x ∈ ppT l i, x.ok := fun x hx => by
  obtain ⟨p, _, rfl⟩ := List.mem_map.1 hx
  exact ptV_ok p
theorem pp_bad {l p : List UInt8} {i : Nat} (h : (fds 59 l)[i]? = some p) (hb : ptOk p = false) : ppV l = [] ∧ ppOk l = false := by
  have e : ppOk l = false := by
    cases hq : ppOk l with
    | false => rfl
    | true =>
      unfold ppOk at hq
      rw [Bool.and_eq_true] at hq
      have := List.all_eq_true.1 hq.2 p (List.mem_of_getElem? h)
      rw [hb] at this
      cases this
  exact ⟨by rw [ppV, if_neg (by rw [e]; decide)], e⟩
theorem pp_many {l : List UInt8} (h : 10 < (fds 59 l).length) : ppV l = [] ∧ ppOk l = false := by
  have e : ppOk l = false := by
    unfold ppOk
    rw [decide_eq_false (by omega), Bool.false_and]
  exact ⟨by rw [ppV, if_neg (by rw [e]; decide)], e⟩
theorem pp_good {l : List UInt8} (h : (fds 59 l).length ≤ 10) (ha : ((fds 59 l).take (fds 59 l).length).all ptOk = true) : ppV l = ppT l (fds 59 l).length ∧ ppOk l = true := by
  rw [List.take_length] at ha
  have e : ppOk l = true := by
    unfold ppOk
    rw [decide_eq_true h, ha]
    rfl
  exact ⟨by rw [ppV, if_pos e, ppT, List.take_length], e⟩
theorem all_next {l p : List UInt8} {i : Nat} (h : (fds 59 l)[i]? = some p) (ha : ((fds 59 l).take i).all ptOk = true) (hA : pOk (pA p) = true) (hB : pOk (pB p) = true) : ((fds 59 l).take (i + 1)).all ptOk = true := by
  rw [take_succ_of h, List.all_append, ha]
  simp [ptOk, hA, hB]
theorem ab_cases (p : List UInt8) : (pOk (pA p) = false ∧ ptOk p = false) ∨ (pOk (pA p) = true ∧ pOk (pB p) = false ∧ ptOk p = false) ∨ (pOk (pA p) = true ∧ pOk (pB p) = true) := by
  unfold ptOk
  cases pOk (pA p) <;> cases pOk (pB p) <;> simp
theorem xy_cases (p : List UInt8) : (((((fds 44 p).map piE).length : Int) != 2) = true ∧ ptOk p = false) ∨
    (((((fds 44 p).map piE).length : Int) != 2) = false ∧ ((fds 44 p).map piE)[(0 : Int).toNat]? = some (piE (pA p)) ∧ ((fds 44 p).map piE)[(1 : Int).toNat]? = some (piE (pB p))) := by
  rcases pt_two p with ⟨h1, h2⟩ | ⟨h1, h2, h3⟩
  · exact .inl ⟨by rw [List.length_map]; simp; intro e; exact h1 (by omega), h2⟩
  · exact .inr ⟨by rw [List.length_map, h1]; rfl, by rw [List.getElem?_map, show (0 : Int).toNat = 0 from rfl, h2]; rfl, by rw [List.getElem?_map, show (1 : Int).toNat = 1 from rfl, h3]; rfl⟩
theorem nS_le (l : List UInt8) : nS l ≤ (fds 59 l).length ∧ nS l ≤ 10 := by unfold nS; split <;> omega
theorem nS_t {l : List UInt8} {i : Nat} (h : i < nS l) : (decide ((i : Int) < (((fds 59 l).map piE).length : Int)) && decide ((((fds 59 l).map piE).length : Int) ≤ 10)) = true := by
  unfold nS at h
  rw [List.length_map]
  split at h
  · simp; omega
  · omega
theorem nS_f (l : List UInt8) : (decide (((nS l : Nat) : Int) < (((fds 59 l).map piE).length : Int)) && decide ((((fds 59 l).map piE).length : Int) ≤ 10)) = false := by
  unfold nS
  rw [List.length_map]
  split
  · simp
  · simp; omega
theorem endPP {l : List UInt8} (ha : ((fds 59 l).take (nS l)).all ptOk = true) :
    (((ptsT (ppT l (nS l))).toList == (bs l).toList) = false ∧ ppV l = [] ∧ ppOk l = false) ∨
    (((ptsT (ppT l (nS l))).toList == (bs l).toList) = true ∧ ((((ppT l (nS l)).map TPoint.en).length : Int) == 0) = true ∧ ppV l = [] ∧ ppOk l = false) ∨
    (((ptsT (ppT l (nS l))).toList == (bs l).toList) = true ∧ ((((ppT l (nS l)).map TPoint.en).length : Int) == 0) = false ∧ ppV l = ppT l (nS l) ∧ ppOk l = true) := by
  by_cases h : (fds 59 l).length ≤ 10
  · right; right
    have e : nS l = (fds 59 l).length := by unfold nS; rw [if_pos h]
    rw [e] at ha ⊢
    obtain ⟨g1, g2⟩ := pp_good h ha
    have hl := (fds_len 59 l).1
    refine ⟨?_, by rw [List.length_map, ppT_len (Nat.le_refl _)]; simp; intro e0; rw [e0] at hl; simp at hl, g1, g2⟩
    have := pts_back (by rw [List.take_length] at ha; exact ha)
    rw [ppT, List.take_length, this, bsl_eq]
    simp
  · have e : nS l = 0 := by unfold nS; rw [if_neg h]
    obtain ⟨g1, g2⟩ := pp_many (l := l) (by omega)
    rw [e]
    cases hq : ((ptsT (ppT l 0)).toList == (bs l).toList)
    · exact .inl ⟨rfl, g1, g2⟩
    · exact .inr (.inl ⟨rfl, rfl, g1, g2⟩)
theorem ten_cases {l : List UInt8} {i : Nat} (hi : i ≤ 10) (hlt : i < (fds 59 l).length) : (((((ppT l i).map TPoint.en).length : Int) == 10) = true ∧ ppV l = [] ∧ ppOk l = false) ∨ (((((ppT l i).map TPoint.en).length : Int) == 10) = false ∧ i + 1 ≤ 10) := by
  rw [List.length_map, ppT_len (by omega)]
  by_cases h : i = 10
  · exact .inl ⟨by rw [h]; rfl, pp_many (by omega)⟩
  · exact .inr ⟨by simp; omega, by omega⟩
theorem pA_len (p : List UInt8) : (pA p).length ≤ p.length ∧ (pB p).length ≤ p.length := by
  unfold pA pB
  rcases cut_fds 44 p with ⟨_, h⟩ | ⟨i, _, _, h⟩ <;> rw [h]
  · simp
  · simp; omega

theorem split_s (b : UInt8) (cc : Int) (hcc : cc = ((b.toNat : Nat) : Int)) (l : List UInt8) (hl : l.length ≤ 1048576) : VCalls Tryd.prog 9 [S (bs l), .c (.int .u8 cc)] (fun r M => r = .own 0 0 ∧ M = [some ⟨9, 1, 0, false, (fds b l).map piE⟩]) := by
  refine VB Tryd.func9 34 (fun E hE => ?_)
  have hsz : (bs l).size = l.length := bs_size l
  repeat' ((first
    | (refine iAL ?_; first | refine AL.any ?_ | refine AL.U ?_ | refine AL.F ?_ | refine AL.T ?_ | refine AL.W ?_ | refine AL.nil ?_)
    | (refine iAW ?_; first | (refine AW.c0 ?_; constructor) | refine AW.cT ?_ | refine AW.cF ?_ | (refine AW.c2 ?_ ?_ <;> (intro h; try simp only [bT, bF] at h)))
    | refine AL.any (h := POp.quiet (QOp.sliceS (by rfl) kds9 (by rfl) (by rfl) (by rfl) (by omega) (by omega) (by omega) (by assumption))) ?_
    | (refine AW.loopD hE (fun i : Nat => [S (bs l), .c (.int .u8 cc), .any, .any, .any, .own 0 (spO b l i).length, I ((spA b l i : Nat) : Int), I (i : Int), .any, .any, .any, .any, .any, .any, .any, .any, .any, .any, .any, .any, .any, .any, .any, .any, .any, .any, .any, .any, .any, .any, .any, .any, .any, .any, .any, .any]) (fun i => [some ⟨9, 1, (spO b l i).length, false, (spO b l i).map piE⟩]) (fun i => (l.length + 1) - i) (fun i => i ≤ l.length + 1) 0 (Nat.zero_le _) ?_ (by first | rfl | (simp [fil_zero]; done)) ?_
       (focus ((repeat' (first | exact Wk.nil | refine Wk.any ?_ | (with_reducible refine Wk.same ?_) | refine Wk.of ?_ ?_)) <;> first | rfl | (rfl)))
       intro i hi
       by_cases hlt : i < (l.length + 1)
       case' pos =>
         have hP := True.intro
         have hn := next_ix (n := l.length + 1) hlt (by omega)
         have ht : decide ((i : Int) ≤ ((bs l).size : Int)) = true := by rw [hsz]; simp; omega
         have hle := spA_le b l i
         have hol := spO_len b l i
         have hil : i ≤ (bs l).size := by omega
         have hex : (bs l).extract ((spA b l i : Nat) : Int).toNat (i : Int).toNat = bs ((l.drop (spA b l i)).take (i - spA b l i)) := by rw [Int.toNat_natCast, Int.toNat_natCast]; exact ByteArray.extract_mk l _ _
         rcases sp_cases hcc (show i ≤ l.length by omega) with ⟨hq, hA, hO1, hO2⟩ | ⟨c, hc, hq, hq2, hA, hO1, hO2⟩ | ⟨c, hc, hq, hq2, hA, hO1, hO2⟩
       case' neg =>
         have hQ := True.intro
         have e : i = (l.length + 1) := by omega
         have ht : decide ((i : Int) ≤ ((bs l).size : Int)) = false := by rw [hsz]; simp; omega
         subst e)
    | with_reducible refine ifP ?_
    | with_reducible refine ifN ?_) <;> (try dsimp only))
  all_goals first
    | (have _ := hP; (refine ⟨i + 1, _, hlt, by omega, ?_, by first | (rw [hO1, hO2] <;> rfl) | rfl, ?_, ?_⟩; (focus ((repeat' (first | exact Wk.nil | refine Wk.any ?_ | (with_reducible refine Wk.same ?_) | refine Wk.of ?_ ?_)) <;> (first | rfl | (rw [hn]; done) | (rw [hA]; done) | (rw [hA, hn]; done) | (rw [hO1] <;> rfl)))); (focus (exact fitsA)); (focus (exact fits_row (clo_rowsS clo_piE)))))
    | (have _ := hQ; exact Fin.r1 [0] rfl (RV.tmp (by rfl)) ⟨rfl, by rw [sp_all] <;> rfl⟩)

theorem inr_s (a b c : Int) : VCalls Tryd.prog 16 [I a, I b, I c] (fun r M => r = B (inr a b c) ∧ M = []) := by
  refine VB Tryd.func16 12 (fun E hE => ?_)
  repeat' ((first
    | (refine iAL ?_; first | refine AL.any ?_ | refine AL.U ?_ | refine AL.F ?_ | refine AL.T ?_ | refine AL.W ?_ | refine AL.nil ?_)
    | (refine iAW ?_; first | (refine AW.c0 ?_; constructor))) <;> (try dsimp only))
  all_goals exact Fin.one rfl (RV.tmp (by rfl)) (clo_c _) ⟨by first | rfl | (simp_all [inr]; done), rfl⟩

theorem pint_s (p : List UInt8) : VCalls Tryd.prog 10 [S (bs p)] (fun r M => r = .tup [I (pV p), B (pOk p)] ∧ M = []) := by
  refine VB Tryd.func10 38 (fun E hE => ?_)
  have hsz : (bs p).size = p.length := bs_size p
  rcases len_cases p with ⟨hli, hpv, hpk⟩ | ⟨hli, hl1, hl13⟩
  repeat' ((first
    | (refine iAL ?_; first | refine AL.any ?_ | refine AL.any (h := POp.k Tryd.func16 (hc := inr_s _ _ _)) ?_ | refine AL.U ?_ | refine AL.F ?_ | refine AL.T ?_ | refine AL.T (h := POp.k Tryd.func17 (hc := fmt_s _ (by assumption))) ?_ | refine AL.W ?_ | refine AL.W (h := fun h => by (try rw [h]); exact POp.k Tryd.func17 (hc := fmt_s _ (by assumption))) ?_ | refine AL.nil ?_)
    | (refine iAW ?_; first | (refine AW.c0 ?_; constructor) | refine AW.cT ?_ | refine AW.cF ?_ | (refine AW.c2 ?_ ?_ <;> (intro h; try simp only [bT, bF] at h)))
    | (refine AW.loopD hE (fun i : Nat => [S (bs p), .any, .any, .any, I ((vl p i : Nat) : Int), I (i : Int), .any, .any, .any, .any, .any, .any, .any, .any, .any, .any, .any, .any, .any, .any, .any, .any, .any, .any, .any, .any, .any, .any, .any, .any, .any, .any, .any, .any, .any, .any, .any, .any, .any]) (fun i => []) (fun i => p.length - i) (fun i => i ≤ p.length ∧ (p.take i).all isD = true) 0 ⟨Nat.zero_le _, rfl⟩ ?_ (by first | rfl | (simp [fil_zero]; done)) ?_
       (focus ((repeat' (first | exact Wk.nil | refine Wk.any ?_ | (with_reducible refine Wk.same ?_) | refine Wk.of ?_ ?_)) <;> first | rfl | (rfl)))
       intro i hi
       have hi1 := hi.1
       have hi2 := hi.2
       by_cases hlt : i < p.length
       case' pos =>
         have hP := True.intro
         obtain ⟨c, hc⟩ : ∃ c, p[i]? = some c := ⟨_, List.getElem?_eq_getElem hlt⟩
         have hcb : (bs p)[((i : Nat) : Int).toNat]? = some c := by rw [Int.toNat_natCast, bs_get, hc]
         have hn := next_ix (n := p.length) hlt (by omega)
         have ht : decide ((i : Int) < ((bs p).size : Int)) = true := by rw [hsz]; simp; omega
         rcases dig_in hc with ⟨hd, hin, hpv, hpk⟩ | ⟨hd, hin⟩
         case' inr => obtain ⟨hsm, hjn⟩ := vl_sum hc hd (by omega) hi2
       case' neg =>
         have hQ := True.intro
         have e : i = p.length := by omega
         have ht : decide ((i : Int) < ((bs p).size : Int)) = false := by rw [hsz]; simp; omega
         subst e
         have hi64 : i64 ((vl p p.length : Nat) : Int) := by
           have h1 := vl_lt p p.length (Nat.le_refl _) hi2
           have h2 : 10 ^ p.length ≤ 10 ^ 13 := Nat.pow_le_pow_right (by decide) hl13
           have h3 : (10 : Nat) ^ 13 = 10000000000000 := by decide
           exact i64_of (by omega) (by omega)
         rcases endS hl1 hl13 hi2 with ⟨hgt, hpv, hpk⟩ | ⟨hgt, hfe, hpv, hpk⟩ | ⟨hgt, hfe, hpv, hpk⟩)
    | with_reducible refine ifP ?_
    | with_reducible refine ifN ?_) <;> (try dsimp only))
  all_goals first
    | (have _ := hP; (refine ⟨i + 1, _, ⟨hlt, hjn⟩, by omega, ?_, rfl, ?_, ?_⟩; (focus ((repeat' (first | exact Wk.nil | refine Wk.any ?_ | (with_reducible refine Wk.same ?_) | refine Wk.of ?_ ?_)) <;> (first | rfl | (rw [hn]; done) | (rw [hsm]; done)))); (focus (exact fitsA)); (focus (exact FitsM.nil _))))
    | (have _ := hP; exact Fin.two rfl (RV.tmp (by rfl)) (RV.tmp (by rfl)) (clo_of (by rfl)) ⟨by rw [hpv, hpk], rfl⟩)
    | (have _ := hQ; exact Fin.two rfl (RV.tmp (by rfl)) (RV.tmp (by rfl)) (clo_of (by rfl)) ⟨by rw [hpv, hpk], rfl⟩)
    | (exact Fin.two rfl (RV.tmp (by rfl)) (RV.tmp (by rfl)) (clo_of (by rfl)) ⟨by rw [hpv, hpk], rfl⟩)

theorem pint_i (p : List UInt8) : VCalls Tryd.prog 14 [S (bs p)] (fun r M => r = .tup [I (pV p), B (pOk p)] ∧ M = []) := by
  refine VB Tryd.func14 50 (fun E hE => ?_)
  have hsz : (bs p).size = p.length := bs_size p
  rcases head_cases p with ⟨he0, hpv, hpk⟩ | ⟨he0, he13, hpv, hpk⟩ | ⟨c0, hc0, he0, he13, he1, he48, hpv, hpk⟩ | ⟨c0, hc0, he0, he13, he1, he48, hl1, hl13, hh0⟩ | ⟨he0, he13, he1, hl1, hl13, hh0⟩
  repeat' ((first
    | (refine iAL ?_; first | refine AL.any ?_ | refine AL.U ?_ | refine AL.F ?_ | refine AL.T ?_ | refine AL.W ?_ | refine AL.nil ?_)
    | (refine iAW ?_; first | (refine AW.c0 ?_; constructor) | refine AW.cT ?_ | refine AW.cF ?_ | (refine AW.c2 ?_ ?_ <;> (intro h; try simp only [bT, bF] at h)))
    | (refine AW.loopD hE (fun i : Nat => [S (bs p), .any, .any, .any, I ((vl p i : Nat) : Int), .any, .any, .any, .any, .any, .any, .any, .any, .any, .any, .any, .any, .any, .any, .any, .any, .any, .any, .any, .any, I (((bs p).size : Nat) : Int), I (i : Int), .any, .any, .any, .any, .any, .any, .any, .any, .any, .any, .any, .any, .any, .any, .any, .any, .any, .any, .any, .any, .any, .any, .any, .any]) (fun i => []) (fun i => p.length - i) (fun i => i ≤ p.length ∧ (p.take i).all isD = true) 0 ⟨Nat.zero_le _, rfl⟩ ?_ (by first | rfl | (simp [fil_zero]; done)) ?_
       (focus ((repeat' (first | exact Wk.nil | refine Wk.any ?_ | (with_reducible refine Wk.same ?_) | refine Wk.of ?_ ?_)) <;> first | rfl | (rfl)))
       intro i hi
       have hi1 := hi.1
       have hi2 := hi.2
       by_cases hlt : i < p.length
       case' pos =>
         have hP := True.intro
         obtain ⟨c, hc⟩ : ∃ c, p[i]? = some c := ⟨_, List.getElem?_eq_getElem hlt⟩
         have hcb : (bs p)[((i : Nat) : Int).toNat]? = some c := by rw [Int.toNat_natCast, bs_get, hc]
         have hn := next_ix (n := p.length) hlt (by omega)
         have ht : decide ((i : Int) < ((bs p).size : Int)) = true := by rw [hsz]; simp; omega
         rcases dig_lt hc with ⟨hd, hl48, hpv, hpk⟩ | ⟨hd, hl48, hg57, hpv, hpk⟩ | ⟨hd, hl48, hg57⟩
         case' inr.inr => obtain ⟨hsm, hjn⟩ := vl_sum hc hd (by omega) hi2
       case' neg =>
         have hQ := True.intro
         have e : i = p.length := by omega
         have ht : decide ((i : Int) < ((bs p).size : Int)) = false := by rw [hsz]; simp; omega
         subst e
         rcases endI hl1 hl13 hh0 hi2 with ⟨hgt, hpv, hpk⟩ | ⟨hgt, hpv, hpk⟩)
    | with_reducible refine ifP ?_
    | with_reducible refine ifN ?_) <;> (try dsimp only))
  all_goals first
    | (have _ := hP; (refine ⟨i + 1, _, ⟨hlt, hjn⟩, by omega, ?_, rfl, ?_, ?_⟩; (focus ((repeat' (first | exact Wk.nil | refine Wk.any ?_ | (with_reducible refine Wk.same ?_) | refine Wk.of ?_ ?_)) <;> (first | rfl | (rw [hn]; done) | (rw [hsm]; done)))); (focus (exact fitsA)); (focus (exact FitsM.nil _))))
    | (have _ := hP; exact Fin.two rfl (RV.tmp (by rfl)) (RV.tmp (by rfl)) (clo_of (by rfl)) ⟨by rw [hpv, hpk], rfl⟩)
    | (have _ := hQ; exact Fin.two rfl (RV.tmp (by rfl)) (RV.tmp (by rfl)) (clo_of (by rfl)) ⟨by rw [hpv, hpk], rfl⟩)
    | (exact Fin.two rfl (RV.tmp (by rfl)) (RV.tmp (by rfl)) (clo_of (by rfl)) ⟨by rw [hpv, hpk], rfl⟩)

theorem split_sr (b : UInt8) (cc : Int) (hcc : cc = ((b.toNat : Nat) : Int)) (l : List UInt8) (hl : l.length ≤ 1048576) : VCalls Tryd.prog 9 [S (bs l), .c (.int .u8 cc)] (fun r M => r = .ro 1 ((fds b l).map piE) ∧ M = []) := VCalls.frz (split_s b cc hcc l hl) (.cons (View.row (id := 0) (g := 0) (b := ⟨9, 1, 0, false, (fds b l).map piE⟩) rfl rfl rfl (clo_rowsS clo_piE)) .nil)
theorem cut_44 (p : List UInt8) (hp : p.length ≤ 1048576) : VCallsI Tryd.prog CellI 13 [S (bs p), S ⟨#[44]⟩] (fun r M => r = .tup [S (bs (pA p)), S (bs (pB p)), B (Lib.cut p [44]).2.2] ∧ M = []) := cut_v 44 p hp
theorem pp_s (l : List UInt8) (hl : l.length ≤ 1048576) : VCalls Tryd.prog 4 [S (bs l)] (fun r M => r = .tup [.own 0 0, B (ppOk l)] ∧ M = [some ⟨33, 2, 0, false, (ppV l).map TPoint.en⟩]) := by
  refine VB Tryd.func4 72 (fun E hE => ?_)
  have hclo : Clo (.ro 1 ((fds 59 l).map piE)) := clo_list clo_piE
  have hfl := fds_len 59 l
  repeat' ((first
    | (refine iAL ?_; first | refine AL.any ?_ | refine AL.any (h := POp.k Tryd.func9 (hc := by first | exact split_sr 59 59 (by decide) l (by assumption) | exact split_sr 44 44 (by decide) x (by assumption))) ?_ | refine AL.any (h := POp.k Tryd.func10 (hc := pint_s _)) ?_ | refine AL.any (h := POp.D Tryd.func11 (hc := pts_s (ppT l (nS l)) (by assumption) (by assumption))) ?_ | refine AL.U ?_ | refine AL.F ?_ | refine AL.T ?_ | refine AL.W ?_ | refine AL.nil ?_)
    | (refine iAW ?_; first | (refine AW.c0 ?_; constructor) | refine AW.cT ?_ | refine AW.cF ?_ | (refine AW.c2 ?_ ?_ <;> (intro h; try simp only [bT, bF] at h)))
    | (refine AW.loopD hE (fun i : Nat => (S (bs l) :: .any :: .any :: .any :: .own 0 i :: .ro 1 ((fds 59 l).map piE) :: I (i : Int) :: .any :: .any :: .any :: .any :: .any :: .any :: .any :: .any :: .any :: .any :: .any :: .any :: .any :: .any :: .any :: .any :: .any :: .any :: .any :: .any :: .any :: .any :: .any :: .any :: .any :: .any :: .any :: .any :: .any :: .any :: .any :: .any :: .any :: .any :: .any :: .any :: .any :: .any :: .any :: .any :: .any :: .any :: .any :: .any :: .any :: .any :: .any :: .any :: .any :: .any :: .any :: .any :: .any :: .any :: .any :: .any :: .any :: .any :: .any :: .any :: .any :: .any :: .any :: .any :: .any :: .any :: [])) (fun i => [some ⟨33, 2, i, false, (ppT l i).map TPoint.en⟩]) (fun i => (nS l) - i) (fun i => i ≤ nS l ∧ ((fds 59 l).take i).all ptOk = true) 0 ⟨Nat.zero_le _, rfl⟩ ?_ (by first | rfl | (simp [fil_zero]; done)) ?_
       (focus ((repeat' (first | exact Wk.nil | refine Wk.any ?_ | (with_reducible refine Wk.same ?_) | refine Wk.of ?_ ?_)) <;> first | rfl | (rfl)))
       intro i hi
       have hi1 := hi.1
       have hi2 := hi.2
       by_cases hlt : i < (nS l)
       case' pos =>
         have hP := True.intro
         have hnl := nS_le l
         obtain ⟨x, hx⟩ : ∃ x, (fds 59 l)[i]? = some x := ⟨_, List.getElem?_eq_getElem (by omega)⟩
         have hg := map_get (f := piE) hx
         have ht : (decide ((i : Int) < (((fds 59 l).map piE).length : Int)) && decide ((((fds 59 l).map piE).length : Int) ≤ 10)) = true := nS_t hlt
         have hn := next_ix hlt (by omega)
         have hxl := fds_sz 59 l x (List.mem_of_getElem? hx)
         have hxs : x.length ≤ 1048576 := by omega
         have hpl := pA_len x
         have hms := ppT_succ hx
         have hclr : Clo (.ro 1 ((fds 44 x).map piE)) := clo_list clo_piE
         have htl := ppT_len (l := l) (i := i) (by omega)
         rcases xy_cases x with ⟨hxy, hpo⟩ | ⟨hxy, hx0, hx1⟩
         case' inl => obtain ⟨hpv, hpk⟩ := pp_bad hx hpo
         case' inr => rcases ab_cases x with ⟨hpa, hpo⟩ | ⟨hpa, hpb, hpo⟩ | ⟨hpa, hpb⟩
         case' inr.inl => obtain ⟨hpv, hpk⟩ := pp_bad hx hpo
         case' inr.inr.inl => obtain ⟨hpv, hpk⟩ := pp_bad hx hpo
         case' inr.inr.inr => have hjn := all_next hx hi2 hpa hpb
       case' neg =>
         have hQ := True.intro
         have e : i = (nS l) := by omega
         have ht : (decide ((i : Int) < (((fds 59 l).map piE).length : Int)) && decide ((((fds 59 l).map piE).length : Int) ≤ 10)) = false := by rw [e]; exact nS_f l
         subst e
         have hnl := nS_le l
         have htl := ppT_len (l := l) (i := nS l) (by omega)
         have htl2 : (ppT l (nS l)).length ≤ 1048576 := by omega
         have htk := ppT_ok l (nS l)
         rcases endPP hi2 with ⟨heq, hpv, hpk⟩ | ⟨heq, hl0, hpv, hpk⟩ | ⟨heq, hl0, hpv, hpk⟩)
    | with_reducible refine ifP ?_
    | with_reducible refine ifN ?_) <;> (try dsimp only))
  all_goals first
    | (have _ := hP; (refine ⟨i + 1, _, ⟨hlt, hjn⟩, by omega, ?_, by rw [hms] <;> rfl, ?_, ?_⟩; (focus ((repeat' (first | exact Wk.nil | refine Wk.any ?_ | (with_reducible refine Wk.same ?_) | refine Wk.of ?_ ?_)) <;> (first | rfl | (rw [hn]; done)))); (focus (exact fitsA)); (focus (exact fits_row (clo_rowsS TPoint.clo_en)))))
    | (have _ := hP; exact Fin.r2 [1] rfl (RV.tmp (by rfl)) (RV.tmp (by rfl)) ⟨by rw [hpk] <;> rfl, by rw [hpv] <;> rfl⟩)
    | (have _ := hQ; first | (have _ : ppOk l = true := hpk; exact Fin.r2 [0] rfl (RV.tmp (by rfl)) (RV.tmp (by rfl)) ⟨by rw [hpk] <;> rfl, by rw [hpv] <;> rfl⟩) | (have _ : ppOk l = false := hpk; exact Fin.r2 [1] rfl (RV.tmp (by rfl)) (RV.tmp (by rfl)) ⟨by rw [hpk] <;> rfl, by rw [hpv] <;> rfl⟩))

theorem pp_i (l : List UInt8) (hl : l.length ≤ 1048576) : VCallsI Tryd.prog CellI 5 [S (bs l)] (fun r M => r = .tup [.own 0 0, B (ppOk l)] ∧ M = [some ⟨33, 2, 0, false, (ppV l).map TPoint.en⟩]) := by
  refine VCallsI.bodyE Tryd.func5 rfl 57 rfl (fun E hE hK => ?_)
  simp only [List.reduceReplicate, List.cons_append, List.nil_append]
  have hclo : Clo (.ro 1 ((fds 59 l).map piE)) := clo_list clo_piE
  have hfl := fds_len 59 l
  repeat' ((first
    | (refine iAL ?_; first | refine AL.any ?_ | refine AL.any (h := POp.kI hK Tryd.func12 (hc := split_r 59 l (by assumption))) ?_ | refine AL.any (h := POp.kI hK Tryd.func13 (hc := cut_44 x (by assumption))) ?_ | refine AL.any (h := POp.k Tryd.func14 (hc := pint_i _)) ?_ | refine AL.U ?_ | refine AL.F ?_ | refine AL.T ?_ | refine AL.W ?_ | refine AL.nil ?_)
    | (refine iAW ?_; first | (refine AW.c0 ?_; constructor) | refine AW.cT ?_ | refine AW.cF ?_ | (refine AW.c2 ?_ ?_ <;> (intro h; try simp only [bT, bF] at h)))
    | (refine AW.loopD hE (fun i : Nat => [.any, .any, .any, .any, .own 0 i, .any, .any, .any, .any, .any, .any, .any, .any, .any, .any, .any, .ro 1 ((fds 59 l).map piE), I (((fds 59 l).map piE).length : Int), I (i : Int), .any, .any, .any, .any, .any, .any, .any, .any, .any, .any, .any, .any, .any, .any, .any, .any, .any, .any, .any, .any, .any, .any, .any, .any, .any, .any, .any, .any, .any, .any, .any, .any, .any, .any, .any, .any, .any, .any, .any]) (fun i => [some ⟨33, 2, i, false, (ppT l i).map TPoint.en⟩]) (fun i => (fds 59 l).length - i) (fun i => i ≤ (fds 59 l).length ∧ i ≤ 10 ∧ ((fds 59 l).take i).all ptOk = true) 0 ⟨Nat.zero_le _, Nat.zero_le _, rfl⟩ ?_ (by first | rfl | (simp [fil_zero]; done)) ?_
       (focus ((repeat' (first | exact Wk.nil | refine Wk.any ?_ | (with_reducible refine Wk.same ?_) | refine Wk.of ?_ ?_)) <;> first | rfl | (rfl)))
       intro i hi
       have hi1 := hi.1
       have hi3 := hi.2.1
       have hi2 := hi.2.2
       by_cases hlt : i < (fds 59 l).length
       case' pos =>
         have hP := True.intro
         obtain ⟨x, hx⟩ : ∃ x, (fds 59 l)[i]? = some x := ⟨_, List.getElem?_eq_getElem hlt⟩
         have hg := map_get (f := piE) hx
         have ht := lt_true (f := piE) hlt
         have hn := next_ix hlt (by omega)
         have hxl := fds_sz 59 l x (List.mem_of_getElem? hx)
         have hxs : x.length ≤ 1048576 := by omega
         have hpl := pA_len x
         have hms := ppT_succ hx
         have hclr : Clo (.ro 1 ((fds 44 x).map piE)) := clo_list clo_piE
         have htl := ppT_len (l := l) (i := i) (by omega)
         rcases ab_cases x with ⟨hpa, hpo⟩ | ⟨hpa, hpb, hpo⟩ | ⟨hpa, hpb⟩
         case' inl => obtain ⟨hpv, hpk⟩ := pp_bad hx hpo
         case' inr.inl => obtain ⟨hpv, hpk⟩ := pp_bad hx hpo
         case' inr.inr => rcases ten_cases hi3 hlt with ⟨hte, hpv, hpk⟩ | ⟨hte, hi4⟩
         case' inr.inr.inr => have hjn := all_next hx hi2 hpa hpb
       case' neg =>
         have hQ := True.intro
         have ht := lt_false (f := piE) hlt
         have e : i = (fds 59 l).length := by omega
         subst e
         try rw [List.take_length]
         obtain ⟨hpv, hpk⟩ := pp_good hi3 hi2)
    | with_reducible refine ifP ?_
    | with_reducible refine ifN ?_) <;> (try dsimp only))
  all_goals first
    | (have _ := hP; (refine ⟨i + 1, _, ⟨hlt, hi4, hjn⟩, by omega, ?_, by rw [hms] <;> rfl, ?_, ?_⟩; (focus ((repeat' (first | exact Wk.nil | refine Wk.any ?_ | (with_reducible refine Wk.same ?_) | refine Wk.of ?_ ?_)) <;> (first | rfl | (rw [hn]; done)))); (focus (exact fitsA)); (focus (exact fits_row (clo_rowsS TPoint.clo_en)))))
    | (have _ := hP; exact Fin.r2 [1] rfl (RV.tmp (by rfl)) (RV.tmp (by rfl)) ⟨by rw [hpk] <;> rfl, by rw [hpv] <;> rfl⟩)
    | (have _ := hQ; exact Fin.r2 [0] rfl (RV.tmp (by rfl)) (RV.tmp (by rfl)) ⟨by rw [hpk] <;> rfl, by rw [hpv] <;> rfl⟩)

theorem law_pp (l : List UInt8) : VCallsI Tryd.prog CellI 3 [S (bs l)] (fun r M => r = B true ∧ M = []) := by
  refine VCallsI.bodyE Tryd.func3 rfl 65 rfl (fun E hE hK => ?_)
  simp only [List.reduceReplicate, List.cons_append, List.nil_append]
  have hsz : (bs l).size = l.length := bs_size l
  have hpl := ppV_len l
  have hct := ctL_pt (ppV l)
  have hbn : (ppOk l != ppOk l) = false := by simp
  have hk1 : decide (1 + ((ctL TPoint.ct (ppV l) : Nat) : Int) < 0) = false := by simp; omega
  have hk2 : ((1 + ((ctL TPoint.ct (ppV l) : Nat) : Int)) != (1 + ((ctL TPoint.ct (ppV l) : Nat) : Int))) = false := by simp
  have hz : decide ((((bs l).size : Nat) : Int) > 1048576) = true ∨ (decide ((((bs l).size : Nat) : Int) > 1048576) = false ∧ l.length ≤ 1048576) := by
    rw [hsz]
    by_cases h : l.length ≤ 1048576
    · exact .inr ⟨by simp; omega, h⟩
    · exact .inl (by simp; omega)
  rcases hz with hz | ⟨hz, hl⟩
  repeat' ((first
    | (refine iAL ?_; first | refine AL.at 16 (h := POp.O Tryd.func4 (hc := pp_s l (by assumption))) ?_ | refine AL.at 21 (h := POp.kIo hK Tryd.func5 (by rfl) (by rfl) (by rfl) (by rfl) (by repeat' (first | exact VwL.nil | refine VwL.cons ?_ ?_ | (refine View.own (by rfl) (by rfl) (by rfl) (by rfl) ?_ ?_ <;> first | exact DCl.b rfl | exact DCl.map (fun _ => rfl) | assumption | rfl | exact TPoint.und | exact TSegment.und | exact TBox.und | exact TFeature.und | exact TMeet.und | exact TPlace.und | exact TCover.und | exact TLabel.und | exact TPiece.und | exact TLevel.und | exact TChart.und | exact TReason.und | exact TEdit.und | exact TEntry.und | exact TEdition.und | exact TListing.und | exact TAtlas.und | exact TEvent.und | exact TWindow.und | exact und_nil | exact und_I | assumption) | refine View.agg' ?_ | exact View.same (by first | exact clo_of (by rfl) | assumption | exact clo_fn _) | exact View.nil)) (pp_i l (by assumption)) (by rfl) (by repeat' (first | exact trivial | refine ⟨?_, ?_⟩ | exact DCl.b rfl | exact DCl.map (fun _ => rfl) | assumption)) (by exact nrm) (by exact nrm)) ?_ | refine AL.at 46 (h := POp.kIo hK Tryd.func5 (by rfl) (by rfl) (by rfl) (by rfl) (by repeat' (first | exact VwL.nil | refine VwL.cons ?_ ?_ | (refine View.own (by rfl) (by rfl) (by rfl) (by rfl) ?_ ?_ <;> first | exact DCl.b rfl | exact DCl.map (fun _ => rfl) | assumption | rfl | exact TPoint.und | exact TSegment.und | exact TBox.und | exact TFeature.und | exact TMeet.und | exact TPlace.und | exact TCover.und | exact TLabel.und | exact TPiece.und | exact TLevel.und | exact TChart.und | exact TReason.und | exact TEdit.und | exact TEntry.und | exact TEdition.und | exact TListing.und | exact TAtlas.und | exact TEvent.und | exact TWindow.und | exact und_nil | exact und_I | assumption) | refine View.agg' ?_ | exact View.same (by first | exact clo_of (by rfl) | assumption | exact clo_fn _) | exact View.nil)) (pp_i l (by assumption)) (by rfl) (by repeat' (first | exact trivial | refine ⟨?_, ?_⟩ | exact DCl.b rfl | exact DCl.map (fun _ => rfl) | assumption)) (by exact nrm) (by exact nrm)) ?_ | refine AL.any ?_ | refine AL.any (h := POp.D Tryd.func6 (hc := eqPointS_self (ppV l) (by omega))) ?_ | refine AL.any (h := POp.H [1] Tryd.func7 (hc := markPointS 33 (ppV l) 1 (by omega) (by omega))) ?_ | refine AL.any (h := POp.D Tryd.func8 (hc := heldPointS (ppV l) 1 (by omega) (by omega))) ?_ | refine AL.U ?_ | refine AL.F ?_ | refine AL.T ?_ | refine AL.W ?_ | refine AL.nil ?_)
    | (refine iAW ?_; first | (refine AW.c0 ?_; constructor) | refine AW.cT ?_ | refine AW.cF ?_ | (refine AW.c2 ?_ ?_ <;> (intro h; try simp only [bT, bF] at h)))) <;> (try dsimp only))
  all_goals exact Fin.one rfl (RV.tmp (by rfl)) (clo_c _) ⟨by first | rfl | (simp_all; done), rfl⟩

theorem law_FnExactParsePoints (s : ByteArray) (h0 : s.size ≤ maxLen) : VCallsI Tryd.prog CellI 3 [S s] (fun r M => r = B true ∧ M = []) := by
  have h := law_pp s.data.toList
  rw [bs_data] at h
  exact h
end Go.Proofs.YtfbanjdfihdngaaDoor.Abs
