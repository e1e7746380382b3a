/- Numerals and joined lists: what the library's functions give, and the plain laws. -/
import Derived.Test.YtbkcoechoblndaaDoorWkFacts
import Derived.Test.YtbkcoechoblndaaDoorWkSz
import Derived.Test.YtbkcoechoblndaaDoorShelf
import Derived.Lib.AppendIntMem
import Derived.Lib.ItoaLen
import Derived.Lib.JoinLaws
namespace Go.Proofs.YtbkcoechoblndaaDoor.Abs
open Go.Proofs Go.RowKit
set_option linter.unusedVariables false
set_option linter.unusedSimpArgs false
def TabI (w : World) : Prop := Lib.TabIs Tryd.prog w "internal/strconv.uint64pow10" .u64 Lib.pow10Tab
def fmtI (n : Int) : ByteArray := bs (Lib.itoa n)
theorem i64_iff {n : Int} (h : i64 n) : -9223372036854775808 ≤ n ∧ n ≤ 9223372036854775807 := by
  have e1 : IntKind.i64.min = -9223372036854775808 := rfl
  have e2 : IntKind.i64.max = 9223372036854775807 := rfl
  simp [i64, Lit.wf, e1, e2] at h
  omega
theorem fmtI_size {n : Int} (h : i64 n) : (fmtI n).size ≤ 21 := by
  rw [fmtI, bs_size]
  exact Lib.itoa_length_le n (i64_iff h).1 (i64_iff h).2
theorem itoa_v (n : Int) (h : i64 n) : VCallsI Tryd.prog TabI 60 [I n] (fun r M => r = S (fmtI n) ∧ M = []) :=
  VCallsI.plain (vs := [.int .i64 n]) fun w hI => (Tryd.strconv_Itoa n (i64_iff h).1 (i64_iff h).2 w hI).mono fun e w' he => ⟨he.1, by
    obtain ⟨_, k, os, rfl⟩ := he
    exact Lib.below_grow _ w (Nat.le_refl _) k os⟩
/-! ### The reference's own numeral -/
def sfx (u : Nat) : Nat → List UInt8
  | 0 => []
  | k + 1 => UInt8.ofNat (48 + u / 10 ^ k % 10) :: sfx u k
theorem sfx_len (u : Nat) : ∀ k, (sfx u k).length = k
  | 0 => rfl
  | k + 1 => by simp [sfx, sfx_len u k]
theorem sfx_snoc (u : Nat) : ∀ k, sfx u (k + 1) = sfx (u / 10) k ++ [UInt8.ofNat (48 + u % 10)]
  | 0 => by simp [sfx]
  | k + 1 => by
    rw [show sfx u (k + 2) = UInt8.ofNat (48 + u / 10 ^ (k + 1) % 10) :: sfx u (k + 1) from rfl, sfx_snoc u k, show sfx (u / 10) (k + 1) = UInt8.ofNat (48 + u / 10 / 10 ^ k % 10) :: sfx (u / 10) k from rfl, Nat.div_div_eq_div_mul, ← Nat.pow_succ']
    rfl
theorem nd_lt : ∀ (i u : Nat), 0 < u → (i < Lib.nDigits u ↔ u / 10 ^ i ≠ 0)
  | 0, u, h => by
    have : 0 < Lib.nDigits u := by
      by_cases hs : u < 10
      · rw [Lib.nDigits_small hs]; decide
      · rw [Lib.nDigits_big hs]; omega
    simp; omega
  | i + 1, u, h => by
    by_cases hs : u < 10
    · rw [Lib.nDigits_small hs]
      have h1 : u / 10 ^ (i + 1) = 0 := Nat.div_eq_of_lt (Nat.lt_of_lt_of_le hs (by rw [Nat.pow_succ]; have := Nat.pow_pos (n := i) (show 0 < 10 by decide); omega))
      simp [h1]
    · rw [Lib.nDigits_big hs]
      have := nd_lt i (u / 10) (by omega)
      rw [Nat.div_div_eq_div_mul, ← Nat.pow_succ'] at this
      rw [← this]
      omega
theorem sfx_all : ∀ (u : Nat), 0 < u → sfx u (Lib.nDigits u) = Lib.decDigits u := by
  intro u
  induction u using Nat.strongRecOn with
  | _ u ih =>
    intro h
    by_cases hs : u < 10
    · rw [Lib.nDigits_small hs, Lib.decDigits, dif_pos hs]
      simp [sfx, Nat.mod_eq_of_lt hs]
    · rw [Lib.nDigits_big hs, Lib.decDigits, dif_neg hs, sfx_snoc, ih (u / 10) (by omega) (by omega)]
def xk (n : Int) (i : Nat) : Int := if n < 0 then -((n.natAbs / 10 ^ i : Nat) : Int) else ((n.natAbs / 10 ^ i : Nat) : Int)
theorem w8 {n : Int} (h1 : 0 ≤ n) (h2 : n ≤ 255) : IntKind.u8.wrap n = n := by
  unfold IntKind.wrap
  simp [IntKind.bits, IntKind.signed]
  omega
theorem xk_zero (n : Int) : xk n 0 = n := by
  unfold xk
  simp
  split <;> omega
theorem xk_succ {n : Int} (h0 : -9223372036854775808 ≤ n) (h1 : n ≤ 9223372036854775807) (i : Nat) : IntKind.i64.wrap ((xk n i).tdiv 10) = xk n (i + 1) := by
  obtain ⟨u, hu⟩ : ∃ u : Nat, u = n.natAbs / 10 ^ i := ⟨_, rfl⟩
  have hu2 : n.natAbs / 10 ^ (i + 1) = u / 10 := by rw [Nat.pow_succ, ← Nat.div_div_eq_div_mul, hu]
  have hul : u ≤ n.natAbs := hu ▸ Nat.div_le_self _ _
  have hx : xk n i = if n < 0 then -(u : Int) else (u : Int) := by unfold xk; rw [hu]
  have hx2 : xk n (i + 1) = if n < 0 then -((u / 10 : Nat) : Int) else ((u / 10 : Nat) : Int) := by unfold xk; rw [hu2]
  rw [hx, hx2]
  by_cases hn : n < 0
  · rw [if_pos hn, if_pos hn, Int.neg_tdiv, Int.tdiv_eq_ediv_of_nonneg (by omega), w64 (by omega) (by omega)]
    omega
  · rw [if_neg hn, if_neg hn, Int.tdiv_eq_ediv_of_nonneg (by omega), w64 (by omega) (by omega)]
    omega
theorem dig_cases (n : Int) (i : Nat) :
    (decide ((xk n i).tmod 10 < 0) = false ∧ IntKind.u8.wrap (IntKind.i64.wrap (48 + (xk n i).tmod 10)) = (((UInt8.ofNat (48 + n.natAbs / 10 ^ i % 10)).toNat : Nat) : Int)) ∨
    (decide ((xk n i).tmod 10 < 0) = true ∧ IntKind.u8.wrap (IntKind.i64.wrap (48 + IntKind.i64.wrap (-(xk n i).tmod 10))) = (((UInt8.ofNat (48 + n.natAbs / 10 ^ i % 10)).toNat : Nat) : Int)) := by
  generalize hu : n.natAbs / 10 ^ i = u
  have hb : (UInt8.ofNat (48 + u % 10)).toNat = 48 + u % 10 := by simp; omega
  rw [hb]
  have hx : xk n i = if n < 0 then -(u : Int) else (u : Int) := by unfold xk; rw [hu]
  rw [hx]
  by_cases hn : n < 0
  · rw [if_pos hn]
    have e : (-(u : Int)).tmod 10 = -((u : Int) % 10) := by rw [Int.neg_tmod, Int.tmod_eq_emod_of_nonneg (by omega)]
    rw [e]
    by_cases h : (u : Int) % 10 = 0
    · left
      refine ⟨decide_eq_false (by omega), ?_⟩
      rw [w64 (by omega) (by omega), w8 (by omega) (by omega)]
      omega
    · right
      refine ⟨decide_eq_true (by omega), ?_⟩
      rw [w64 (n := - -((u : Int) % 10)) (by omega) (by omega), w64 (by omega) (by omega), w8 (by omega) (by omega)]
      omega
  · rw [if_neg hn, Int.tmod_eq_emod_of_nonneg (by omega)]
    left
    refine ⟨decide_eq_false (by omega), ?_⟩
    rw [w64 (by omega) (by omega), w8 (by omega) (by omega)]
    omega
theorem xk_ne {n : Int} {i : Nat} (h : n.natAbs / 10 ^ i ≠ 0) : (xk n i != 0) = true := by
  unfold xk
  generalize n.natAbs / 10 ^ i = u at *
  simp
  split <;> omega
theorem xk_eq {n : Int} {i : Nat} (h : n.natAbs / 10 ^ i = 0) : (xk n i != 0) = false := by
  unfold xk
  rw [h]
  simp
theorem i_lt19 {n : Int} (h0 : -9223372036854775808 ≤ n) (h1 : n ≤ 9223372036854775807) {i : Nat} (h : n.natAbs / 10 ^ i ≠ 0) : i < 19 := by
  rcases Nat.lt_or_ge i 19 with hi | hi
  · exact hi
  · exact absurd (Nat.div_eq_of_lt (Nat.lt_of_lt_of_le (by omega : n.natAbs < 10 ^ 19) (Nat.pow_le_pow_right (by decide) hi))) h
theorem fmtI_pos {n : Int} (h : ¬ n < 0) (h0 : n ≠ 0) : fmtI n = bs (sfx n.natAbs (Lib.nDigits n.natAbs)) := by
  rw [sfx_all _ (by omega), fmtI, Lib.itoa, if_neg h]
  congr 2
  omega
theorem fmtI_neg {n : Int} (h : n < 0) : fmtI n = ⟨#[45]⟩ ++ bs (sfx n.natAbs (Lib.nDigits n.natAbs)) := by
  rw [sfx_all _ (by omega), fmtI, Lib.itoa, if_pos h]
  exact (bs_append [45] _).symm
theorem fmtI_zero : fmtI 0 = ⟨#[48]⟩ := by simp [fmtI, Lib.itoa, Lib.decDigits, bs]
theorem fmtI_z {n : Int} (h : (n == 0) = true) : fmtI n = ⟨#[48]⟩ := by
  obtain rfl : n = 0 := by simpa using h
  exact fmtI_zero
theorem size1 (c : UInt8) (u k : Nat) : (⟨#[c]⟩ : ByteArray).size + (bs (sfx u k)).size = 1 + k := by
  rw [bs_size (sfx u k), sfx_len]
  rfl
/-! ### Lists put together -/
def jn (l : List ByteArray) (sep : ByteArray) : Nat → ByteArray
  | 0 => ⟨#[]⟩
  | i + 1 => (if i = 0 then jn l sep i else jn l sep i ++ sep) ++ (l[i]?).getD ⟨#[]⟩
theorem jn_zero {l : List ByteArray} {sep x : ByteArray} (h : l[0]? = some x) : jn l sep 1 = jn l sep 0 ++ x := by simp [jn, h]
theorem jn_succ {l : List ByteArray} {sep x : ByteArray} {i : Nat} (h : l[i]? = some x) (hi : 0 < i) : jn l sep (i + 1) = jn l sep i ++ sep ++ x := by
  rw [jn, if_neg (by omega), h]; rfl
theorem jn_size {l : List ByteArray} {sep : ByteArray} {B : Nat} (hB : ∀ x ∈ l, x.size ≤ B) : ∀ i, i ≤ l.length → (jn l sep i).size ≤ i * (B + sep.size)
  | 0, _ => by rw [Nat.zero_mul]; exact Nat.le_refl 0
  | i + 1, h => by
    have ih := jn_size (sep := sep) hB i (by omega)
    have hx : l[i]? = some l[i] := List.getElem?_eq_getElem (by omega)
    have hs := hB l[i] (List.getElem_mem ..)
    rw [jn, hx]
    simp only [Option.getD_some]
    rw [Nat.succ_mul]
    split <;> simp only [ByteArray.size_append] <;> omega
def joinR (l : List ByteArray) (sep : ByteArray) : ByteArray := if l.length = 0 then ⟨#[45]⟩ else jn l sep l.length
theorem empty_app (s : ByteArray) : (⟨#[]⟩ : ByteArray) ++ s = s := by
  have := bs_append [] s.data.toList
  rw [bs_data] at this
  exact this
theorem len0_cases (l : List ByteArray) : (l.length = 0 ∧ (((l.map (fun s => [S s])).length : Int) == 0) = true) ∨ (l.length ≠ 0 ∧ (((l.map (fun s => [S s])).length : Int) == 0) = false) := by
  cases l with
  | nil => exact .inl ⟨rfl, rfl⟩
  | cons x l => exact .inr ⟨by simp, by simp; omega⟩
theorem clo_rowsS {α : Type} {en : α → List AV} (h : ∀ a, ∀ x ∈ en a, Clo x) {l : List α} : ∀ r ∈ l.map en, ∀ x ∈ r, Clo x := fun r hr x hx => by
  obtain ⟨a, _, rfl⟩ := List.mem_map.1 hr
  exact h a x hx
theorem cloS : ∀ a : ByteArray, ∀ x ∈ [S a], Clo x := fun _ => clo_cons (clo_c _) clo_nil
theorem map_take_succS {α β : Type} {f : α → β} {l : List α} {i : Nat} {x : α} (h : l[i]? = some x) : (l.take (i + 1)).map f = (l.take i).map f ++ [f x] := by rw [take_succ_of h]; simp
theorem take_map_all {α β : Type} (f : α → β) (l : List α) : (l.map f).take l.length = l.map f := List.take_of_length_le (by simp)
theorem big_cases {α β : Type} (f : α → β) (l : List α) : decide (((l.map f).length : Int) > 1048576) = true ∨ (decide (((l.map f).length : Int) > 1048576) = false ∧ l.length ≤ 1048576) := by
  rcases Nat.lt_or_ge 1048576 l.length with h | h
  · exact .inl (by simp; omega)
  · exact .inr ⟨by simp; omega, h⟩
theorem arr_two {a : Array Value} (h : a.size = 2) : ∃ x y, a = #[x, y] := by
  cases a with
  | mk l =>
    match l, h with
    | [x, y], _ => exact ⟨x, y, rfl⟩
theorem bs_app2 (a : List UInt8) (s : ByteArray) : bs a ++ s = bs (a ++ s.data.toList) := by
  have := bs_append a s.data.toList
  rwa [bs_data] at this
theorem joinTail_snoc (sep : List UInt8) (r : List (List UInt8)) (y : List UInt8) : Lib.joinTail sep (r ++ [y]) = Lib.joinTail sep r ++ sep ++ y := by simp [Lib.joinTail]
theorem jn_join {l : List ByteArray} {sep : ByteArray} : ∀ i, i < l.length → jn l sep (i + 1) = bs (Lib.join ((l.take (i + 1)).map (·.data.toList)) sep.data.toList)
  | 0, h => by
    have hx : l[0]? = some l[0] := List.getElem?_eq_getElem h
    rw [jn_zero hx, take_succ_of hx]
    simp [jn, Lib.join_one, bs_data]
    exact empty_app _
  | i + 1, h => by
    have hx : l[i + 1]? = some l[i + 1] := List.getElem?_eq_getElem h
    have ih := jn_join (l := l) (sep := sep) i (by omega)
    rw [jn_succ hx (by omega), ih, take_succ_of hx, List.map_append]
    obtain ⟨y, r, hy⟩ : ∃ y r, (l.take (i + 1)).map (·.data.toList) = y :: r := by
      cases hq : (l.take (i + 1)).map (·.data.toList) with
      | nil => have := congrArg List.length hq; rw [List.length_map, List.length_take, List.length_nil] at this; omega
      | cons y r => exact ⟨y, r, rfl⟩
    rw [hy]
    simp only [List.map_cons, List.map_nil, List.cons_append]
    rw [Lib.join_cons, Lib.join_cons, joinTail_snoc, bs_app2, bs_app2]
    exact congrArg bs (by simp)
theorem joinR_join {l : List ByteArray} {sep : ByteArray} (h : l.length ≠ 0) : joinR l sep = bs (Lib.join (l.map (·.data.toList)) sep.data.toList) := by
  have := jn_join (l := l) (sep := sep) (l.length - 1) (by omega)
  rw [show l.length - 1 + 1 = l.length by omega, List.take_length] at this
  rw [joinR, if_neg h, this]
theorem join_v (l : List ByteArray) (sep : ByteArray) (hl : l.length ≤ 1048576) (hB : ∀ x ∈ l, x.size ≤ 67108864) (hs : sep.size ≤ 8) (h0 : l.length ≠ 0) : VCalls Tryd.prog 61 [.ro 1 (l.map (fun s => [S s])), S sep] (fun r M => r = S (joinR l sep) ∧ M = []) := by
  intro E vals hM hh hsl
  have hsz : vals.size = 2 := hsl.1
  obtain ⟨v0, v1, rfl⟩ := arr_two hsz
  have r0 := hsl.2 0 _ v0 rfl rfl
  have r1 := (hsl.2 1 _ v1 rfl rfl).c_inv
  subst r1
  obtain ⟨bk, o, c, rfl, hc, hF, hcell⟩ := rep_strs (by omega) r0
  have hlen : (Lib.join (l.map (·.data.toList)) sep.data.toList).length ≤ 140737488355328 := by
    have e := joinR_join (sep := sep) h0
    have h2 := jn_size (sep := sep) hB l.length (Nat.le_refl _)
    rw [joinR, if_neg h0] at e
    rw [e, bs_size] at h2
    have h3 : l.length * (67108864 + sep.size) ≤ 1048576 * (67108864 + 8) := Nat.mul_le_mul hl (by omega)
    omega
  refine (Tryd.strings_Join bk o c l sep E.win hcell (hh.fx _ hF) (by omega) hc hlen).mono ?_
  rintro e w' ⟨rfl, hb⟩
  obtain ⟨hh', m⟩ := hh.step hb
  refine ⟨_, S (joinR l sep), [], E.Fx, E.β, rfl, ⟨rfl, rfl⟩, hh', ⟨by rw [hM]; exact m, hb.size, fun k hk => .inl hk, fun id b v k h1 => by simp at h1⟩, ?_⟩
  rw [joinR_join h0]
  exact .c _

end Go.Proofs.YtbkcoechoblndaaDoor.Abs
