/- Part D of the walk over abstract states and of the functions' walks. -/
import Derived.Test.YtpffahmmklpifaaGreatWkStep
import Derived.Test.YtpffahmmklpifaaGreatBnC
import Derived.Test.YtpffahmmklpifaaGreatAbsSU
import Derived.Test.YtpffahmmklpifaaGreatShelf
import Derived.WalkKit
import Derived.Deep.LoopGhost
import Derived.Deep.Draws
import Derived.Shelf.RegionOpenPlain
import Derived.Shelf.SlSortCmp.NoneTotal
import Derived.Test.YtpffahmmklpifaaGreatWkMark
import Derived.Test.YtpffahmmklpifaaGreatWkTo
import Derived.Test.YtpffahmmklpifaaGreatWkEq
import Derived.Test.YtpffahmmklpifaaGreatBnA
/- The walk of JoinTiles (reference). -/
namespace Go.Proofs.YtpffahmmklpifaaGreat.Abs
open Go.Proofs Go.RowKit
set_option linter.unusedVariables false
set_option linter.unusedSimpArgs false
set_option maxRecDepth 100000
set_option maxHeartbeats 2000000
attribute [local irreducible] OpA AL AW DL DLM DLR DLS QOp POp VCalls VCallsI
theorem putPs_take {l : List TPiece} {k : Nat} {x : TPiece} (h : l[k]? = some x) (m : List TPiece) : putPs m (l.take (k + 1)) = putP (putPs m (l.take k)) x := by rw [take_succ_of h, putPs_app]; rfl
theorem joinS_len (l : List TFeature) (ts : List Int) (i k : Nat) (t : Int) (hi : i ≤ ts.length) (h : ts.length ≤ 441) : (putPs (putPs [] (psTo l ts i)) ((pcI l t).take k)).length ≤ 1048576 := by
  have h1 := psTo_len l ts i hi
  have h2 := putPs_len (psTo l ts i) []
  have h3 := putPs_len ((pcI l t).take k) (putPs [] (psTo l ts i))
  have h4 := pcI_len l t
  have h5 : ((pcI l t).take k).length ≤ (pcI l t).length := by rw [List.length_take]; exact Nat.min_le_right _ _
  simp at h2
  omega
theorem join_s (l : List TFeature) (hl : l.length ≤ 1048576) (hp : ∀ x ∈ l, x.gd)(ts : List Int) (hts : ts.length ≤ 441) (htr : ∀ t ∈ ts, inr t 0 440 = true) : VCalls Tryz.prog 55 [.ro 5 (l.map TFeature.en), .ro 1 (ts.map enI)] (fun r M => r = .ro 2 ((joinT l ts).map TPiece.en) ∧ M = []) := by
  refine VB Tryz.func55 33 (fun E hE => ?_)
  have hclo : Clo (.ro 5 (l.map TFeature.en)) := clo_list TFeature.clo_en
  have hclT : Clo (.ro 1 (ts.map enI)) := clo_list clo_enI
  have a1 := True.intro
  repeat' ((first
    | (refine iAL ?_; first | refine AL.any (h := POp.lit0 (RowRun.empty (by rfl) (by rfl) rwk83) clo_rows_nil) ?_ | refine AL.any ?_ | refine AL.any (h := POp.k Tryz.func113 (hc := pcI_s l hl hp t htl)) ?_ | refine AL.any (h := POp.k Tryz.func114 (hc := putP_s (putPs (putPs [] (psTo l ts i)) ((pcI l t).take k)) x (joinS_len l ts i k t (by omega) hts))) ?_ | refine AL.nil ?_)
    | (refine iAW ?_; first | (refine AW.c0 ?_; constructor) | refine AW.cT ?_ | refine AW.cF ?_ | (refine AW.c2 ?_ ?_ <;> (intro h; try simp only [bT, bF] at h)))
    | (have _ := a1
       clear a1
       refine AW.loopD hE (fun s_ : Nat => [.ro 5 (l.map TFeature.en), .ro 1 (ts.map enI), .any, .any, .any, .ro 2 ((putPs [] (psTo l ts s_)).map TPiece.en), I (s_ : Int), .any, .any, .any, .any, .any, .any, .any, .any, .any, .any, .any, .any, .any, .any, .any, .any, .any, .any, .any, .any, .any, .any, .any, .any, .any, .any, .any, .any]) (fun s_ => []) (fun s_ => ts.length - s_) (fun s_ => s_ ≤ ts.length) 0 (Nat.zero_le _) ?_ (by first | rfl | (rfl)) ?_
       (focus ((repeat' (first | exact Wk.nil | refine Wk.any ?_ | (with_reducible refine Wk.same ?_) | refine Wk.of ?_ ?_)) <;> first | rfl | (simp [psTo, putPs])))
       rintro i hJ
       try dsimp only at hJ
       try dsimp only
       by_cases hlt : i < ts.length
       case' pos =>
         have a2 := True.intro
         obtain ⟨t, htt⟩ := getD_some (l := ts) (i := i) hlt
         have hg := map_get (f := enI) htt
         have ht := lt_true (f := enI) hlt
         have hn := next_ix hlt (by omega)
         have htl := htr t (List.mem_of_getElem? htt)
         have hps := psTo_succ (l := l) htt
         have hclQ : Clo (.ro 2 ((pcI l t).map TPiece.en)) := clo_list TPiece.clo_en
         have hpl := pcI_len l t
       case' neg =>
         have q1 := True.intro
         have ht := lt_false (f := enI) hlt
         obtain rfl : i = ts.length := by omega)
    | (have _ := a2
       clear a2
       refine AW.loopD hE (fun s_ : Nat => [.ro 5 (l.map TFeature.en), .ro 1 (ts.map enI), .any, .any, .any, .ro 2 ((putPs (putPs [] (psTo l ts i)) ((pcI l t).take s_)).map TPiece.en), I (i : Int), .ro 2 ((pcI l t).map TPiece.en), I (s_ : Int), .any, .any, .any, .any, .any, .any, .any, .any, .any, .any, .any, .any, .any, .any, .any, .any, .any, .any, .any, .any, .any, .any, .any, .any, .any, .any]) (fun s_ => []) (fun s_ => (pcI l t).length - s_) (fun s_ => s_ ≤ (pcI l t).length) 0 (Nat.zero_le _) ?_ (by first | rfl | (rfl)) ?_
       (focus ((repeat' (first | exact Wk.nil | refine Wk.any ?_ | (with_reducible refine Wk.same ?_) | refine Wk.of ?_ ?_)) <;> first | rfl | (simp [putPs])))
       rintro k hJ
       try dsimp only at hJ
       try dsimp only
       by_cases hlt : k < (pcI l t).length
       case' pos =>
         have p2 := True.intro
         obtain ⟨x, hx⟩ := getD_some (l := pcI l t) (i := k) hlt
         have hgx := map_get (f := TPiece.en) hx
         have htx := lt_true (f := TPiece.en) hlt
         have hnx := next_ix hlt (by omega)
         have hpt := putPs_take hx (putPs [] (psTo l ts i))
         have hclA : Clo (.ro 2 ((putPs (putPs [] (psTo l ts i)) ((pcI l t).take k)).map TPiece.en)) := clo_list TPiece.clo_en
         have hclB : Clo (.ro 2 ((putP (putPs (putPs [] (psTo l ts i)) ((pcI l t).take k)) x).map TPiece.en)) := clo_list TPiece.clo_en
         have hclC : Clo (.ro 2 ((putPs (putPs [] (psTo l ts i)) ((pcI l t).take (k + 1))).map TPiece.en)) := clo_list TPiece.clo_en
         have hcle : Clo (.agg x.en) := Clo.agg x.clo_en
       case' neg =>
         have q2 := True.intro
         have htx := lt_false (f := TPiece.en) hlt
         obtain rfl : k = (pcI l t).length := by omega
         have hfn : putPs (putPs [] (psTo l ts i)) ((pcI l t).take (pcI l t).length) = putPs [] (psTo l ts (i + 1)) := by rw [List.take_length, hps, putPs_app]
         have hclD : Clo (.ro 2 ((putPs [] (psTo l ts (i + 1))).map TPiece.en)) := clo_list TPiece.clo_en)
    | with_reducible refine ifP ?_
    | with_reducible refine ifN ?_) <;> (try dsimp only))
  all_goals first
    | (have _ := p2; refine ⟨k + 1, _, hlt, by omega, ?_, rfl, ?_, ?_⟩; (focus ((repeat' (first | exact Wk.nil | refine Wk.any ?_ | (with_reducible refine Wk.same ?_) | refine Wk.of ?_ ?_)) <;> first | rfl | (rw [hpt]; done) | (rw [hnx]; done))); (focus (exact fitsA)); (focus (exact FitsM.nil _)))
    | (have _ := q2; refine ⟨i + 1, _, (by assumption), by omega, ?_, rfl, ?_, ?_⟩; (focus ((repeat' (first | exact Wk.nil | refine Wk.any ?_ | (with_reducible refine Wk.same ?_) | refine Wk.of ?_ ?_)) <;> first | rfl | (rw [← hfn]; done) | (rw [hn]; done))); (focus (exact fitsA)); (focus (exact FitsM.nil _)))
    | (have _ := q1; exact Fin.one rfl (RV.tmp (by rfl)) (clo_list TPiece.clo_en) ⟨rfl, rfl⟩)

theorem compP (l : List TPiece) (hl : l.length ≤ 1048576) : HCalls Tryz.prog 129 [.own 0 0] [some ⟨87, 2, 0, false, (l).map TPiece.en⟩] (fun r M => r = .own 0 0 ∧ M = [some ⟨87, 2, 0, false, (cp l l.length).map TPiece.en⟩]) := by
  refine HCalls.body Tryz.func129 rfl 60 rfl (fun E hE => ?_)
  simp only [List.reduceReplicate, List.cons_append, List.nil_append]
  rcases Nat.lt_or_ge l.length 2 with h2 | h2
  case' inl =>
    have ht2 : decide (((l.map TPiece.en).length : Int) < 2) = true := by simp; omega
    have hc0 : cp l l.length = l := by rw [cp_all (Nat.le_refl _) fun j h1 h3 => by omega, List.take_length]
  case' inr =>
    have ht2 : decide (((l.map TPiece.en).length : Int) < 2) = false := by simp; omega
    have a1 := True.intro
  repeat' ((first
    | (refine iAL ?_; first | refine AL.any ?_ | refine AL.nil ?_)
    | ((with_reducible show DL ..); first | refine DL.any ?_ | refine DL.nil ?_)
    | (refine iAW ?_; first | (refine AW.c0 ?_; constructor) | refine AW.dr (id := 6) 9 ?_ | refine AW.dr (id := 11) 9 ?_ | refine AW.cT ?_ | refine AW.cF ?_ | (refine AW.c2 ?_ ?_ <;> (intro h; try simp only [bT, bF] at h)))
    | (refine iAL ?_; refine AL.any (h := POp.quiet (QOp.from_own (i := k) (m := l.length - k) (by rfl) slk83 (by rfl) (by rfl) (by rfl) (by rfl) (by rfl) (by rfl) (by omega) (by rw [hlx]; omega) (Int.toNat_natCast _) (by rw [hlx]))) ?_)
    | (refine iAL ?_; refine AL.any (h := POp.quiet (QOp.len_sub (by rfl) slk83 (by rfl) (by rfl) (by rfl))) ?_)
    | (refine iAL ?_; refine AL.any (h := POp.quiet (QOp.at_sub (by rfl) slk83 (by rfl) (by rfl) (by rfl) (by rfl) (by first | assumption | omega) (by first | (rw [w3]; omega) | (rw [Int.toNat_natCast]; omega)) rfl)) ?_)
    | (refine iAL ?_; refine AL.any (h := POp.quiet (QOp.from_own (i := (((cp l (k + q)).length : Nat) : Int).toNat) (m := l.length - (cp l (k + q)).length) (by rfl) slk83 (by rfl) (by rfl) (by rfl) (by rfl) (by rfl) (by rfl) (by omega) (by rw [hlx]; omega) rfl (by rw [hlx, Int.toNat_natCast]))) ?_)
    | ((with_reducible show DL ..); refine DL.any (h := POp.quiet (QOp.at_sub (by rfl) slk83 (by rfl) (by rfl) (by rfl) (by rfl) (by first | assumption | omega) (by first | (rw [w3]; omega) | (rw [Int.toNat_natCast]; omega)) rfl)) ?_)
    | (refine iAL ?_; refine AL.any (h := POp.clear_tail (by rfl) rwk83 (by rfl) (by rfl) (by rfl) (by rfl) (by rfl) (by rfl) (by rw [hlx, Int.toNat_natCast]; omega)) ?_)
    | (refine iAL ?_; refine AL.any (h := POp.cutGive (es2 := (cp l l.length).map TPiece.en) (by rfl) slk83 (by rfl) (by rfl) (by rfl) (by rfl) (by rfl) (by rfl) (by omega) (by rw [List.length_append, List.length_take, List.length_replicate, hlx, Int.toNat_natCast]; omega) hcut) ?_)
    | (have _ := a1
       clear a1
       refine AW.loopS (fun s_ : Nat => [.own 0 0, .any, .any, I (s_ : Int), .any, .any, .any, .any, .any, .any, .any, .any, .any, .any, .any, .any, .any, .any, .any, .any, .any, .any, .any, .any, .any, .any, .any, .any, .any, .any, .any, .any, .any, .any, .any, .any, .any, .any, .any, .any, .any, .any, .any, .any, .any, .any, .any, .any, .any, .any, .any, .any, .any, .any, .any, .any, .any, .any, .any, .any, .any]) (fun s_ => [some ⟨87, 2, 0, false, (l).map TPiece.en⟩]) (fun s_ => l.length - s_) (fun s_ => 1 ≤ s_ ∧ s_ ≤ l.length ∧ ∀ j, 0 < j → j < s_ → l[j]? ≠ l[j - 1]?) 1 ⟨Nat.le_refl _, by omega, fun j h1 h2 => by omega⟩ ?_ (by first | rfl | (rfl)) ?_
       (focus (exact wkI))
       rintro k hJ
       try dsimp only at hJ
       try dsimp only
       by_cases hlt : k < l.length
       case' pos =>
         have p1 := True.intro
         obtain ⟨x, hx⟩ := getD_some hlt
         obtain ⟨y, hy⟩ := getD_some (l := l) (i := k - 1) (by omega)
         obtain ⟨z1, z2, z3⟩ := ix_dn (k := k) (by omega) (by omega)
         have hgx : (l.map TPiece.en)[((k : Nat) : Int).toNat]? = some x.en := map_get hx
         have hgy : (l.map TPiece.en)[(IntKind.i64.wrap ((k : Int) - 1)).toNat]? = some y.en := by rw [z3, List.getElem?_map, hy]; rfl
         have ht := lt_true (f := TPiece.en) hlt
         have hn := next_ix hlt (by omega)
         have hlx : (l.map TPiece.en).length = l.length := List.length_map _
         rcases Bool.eq_false_or_eq_true (pcE x y) with h1 | h1
         case' inr =>
           have hne : l[k]? ≠ l[k - 1]? := by rw [hx, hy]; exact fun e => pcE_f h1 (Option.some.inj e)
           have k1 := True.intro
         case' inl =>
           have heq : l[k]? = l[k - 1]? := by rw [hx, hy, pcE_t h1]
           have hst := cpM_start (by omega) hlt hJ.2.2 heq
           have a2 := True.intro
       case' neg =>
         have q1 := True.intro
         have ht := lt_false (f := TPiece.en) hlt
         have hce : cp l l.length = l := by rw [cp_all (Nat.le_refl _) fun j h1 h2 => hJ.2.2 j h1 (by omega), List.take_length])
    | (have _ := a2
       clear a2
       refine AW.loopS (fun s_ : Nat => [.own 0 0, .any, .any, I (((cp l (k + s_)).length : Nat) : Int), .sub 0 0 2 k (l.length - k), I (s_ : Int), .any, .any, .any, .any, .any, .any, .any, .any, .any, .any, .any, .any, .any, .any, .any, .any, .any, .any, .any, .any, .any, .any, .any, .any, .any, .any, .any, .any, .any, .any, .any, .any, .any, .any, .any, .any, .any, .any, .any, .any, .any, .any, .any, .any, .any, .any, .any, .any, .any, .any, .any, .any, .any, .any, .any]) (fun s_ => [some ⟨87, 2, 0, false, (cpM l (k + s_)).map TPiece.en⟩]) (fun s_ => l.length - (k + s_)) (fun s_ => 1 ≤ s_ ∧ k + s_ ≤ l.length ∧ (cp l (k + s_)).length < k + s_) 1 ⟨Nat.le_refl _, hlt, by rw [hst.2]; exact Nat.lt_succ_self _⟩ ?_ (by first | rfl | (rw [hst.1])) ?_
       (focus ((repeat' (first | exact Wk.nil | refine Wk.any ?_ | (with_reducible refine Wk.same ?_) | refine Wk.of ?_ ?_)) <;> first | rfl | (rw [hst.2]; done)))
       rintro q hQ
       try dsimp only at hQ
       try dsimp only
       by_cases hlt : k + q < l.length
       case' pos =>
         have p2 := True.intro
         obtain ⟨x2, hx2⟩ := getD_some (l := l) (i := k + q) hlt
         obtain ⟨y2, hy2⟩ := getD_some (l := l) (i := k + q - 1) (by omega)
         obtain ⟨w1, w2, w3⟩ := ix_dn (k := q) (by omega) (by omega)
         have hgx2 : ((cpM l (k + q)).map TPiece.en)[k + ((q : Nat) : Int).toNat]? = some x2.en := by rw [Int.toNat_natCast, List.getElem?_map, cpM_get (by omega), hx2]; rfl
         have hgy2 : ((cpM l (k + q)).map TPiece.en)[k + (IntKind.i64.wrap ((q : Int) - 1)).toNat]? = some y2.en := by rw [w3, show k + (q - 1) = k + q - 1 by omega, List.getElem?_map, cpM_get (by omega), hy2]; rfl
         have ht : decide ((q : Int) < ((l.length - k : Nat) : Int)) = true := by simp; omega
         have hn : IntKind.i64.wrap ((q : Int) + 1) = ((q + 1 : Nat) : Int) := next_ix (n := l.length) (by omega) (by omega)
         have hlx : ((cpM l (k + q)).map TPiece.en).length = l.length := by rw [List.length_map, cpM_len (by omega)]
         have hnk : IntKind.i64.wrap (((cp l (k + q)).length : Int) + 1) = (((cp l (k + q)).length + 1 : Nat) : Int) := next_ix (n := l.length) (by omega) (by omega)
         obtain ⟨o2, ho2⟩ := getD_some (l := cpM l (k + q)) (i := (cp l (k + q)).length) (by rw [cpM_len (by omega)]; omega)
         have hgo : ((cpM l (k + q)).map TPiece.en)[(((cp l (k + q)).length : Nat) : Int).toNat]? = some o2.en := map_get ho2
         rcases Bool.eq_false_or_eq_true (pcE x2 y2) with h3 | h3
         case' inl =>
           have e2 : l[k + q]? = l[k + q - 1]? := by rw [hx2, hy2, pcE_t h3]
           have hsk := cpM_skip (by omega) e2
           have hsc := cp_same (by omega) e2
           have k2 := True.intro
         case' inr =>
           have e2 : l[k + q]? ≠ l[k + q - 1]? := by rw [hx2, hy2]; exact fun e => pcE_f h3 (Option.some.inj e)
           obtain ⟨hs1, hs2⟩ := cpM_set hx2 e2
           have hs3 : (cpM l (k + (q + 1))).map TPiece.en = ((cpM l (k + q)).map TPiece.en).set (((cp l (k + q)).length : Nat) : Int).toNat x2.en := by rw [Int.toNat_natCast, ← List.map_set, ← hs1, Nat.add_assoc]
           have k3 := True.intro
       case' neg =>
         have q2 := True.intro
         have eq : k + q = l.length := by omega
         have ht : decide ((q : Int) < ((l.length - k : Nat) : Int)) = false := by simp; omega
         have hlx : ((cpM l (k + q)).map TPiece.en).length = l.length := by rw [List.length_map, cpM_len (by omega)]
         have hcut : (((cpM l (k + q)).map TPiece.en).take (((cp l (k + q)).length : Nat) : Int).toNat ++ List.replicate (l.length - (cp l (k + q)).length) [I 0, I 0]).take (((cp l (k + q)).length : Nat) : Int).toNat = (cp l l.length).map TPiece.en := by
           rw [Int.toNat_natCast, eq]
           exact cpM_cut)
    | with_reducible refine ifP ?_
    | with_reducible refine ifN ?_) <;> (try dsimp only))
  all_goals first
    | (have _ := k1; refine ⟨k + 1, ⟨by omega, hlt, fun j h1 h2 => (Nat.lt_or_ge j k).elim (fun h3 => hJ.2.2 j h1 h3) (fun h3 => (show j = k by omega) ▸ hne)⟩, by omega, ?_, rfl⟩; (focus (exact wkN)))
    | (have _ := k2; refine ⟨q + 1, ⟨by omega, by omega, by rw [← Nat.add_assoc, hsc]; omega⟩, by omega, ?_, (by rw [← Nat.add_assoc, hsk] <;> rfl)⟩; (focus ((repeat' (first | exact Wk.nil | refine Wk.any ?_ | (with_reducible refine Wk.same ?_) | refine Wk.of ?_ ?_)) <;> first | rfl | (rw [hn]; done) | (rw [← Nat.add_assoc, hsc]; done))))
    | (have _ := k3; refine ⟨q + 1, ⟨by omega, by omega, by rw [← Nat.add_assoc, hs2]; omega⟩, by omega, ?_, (by rw [hs3] <;> rfl)⟩; (focus ((repeat' (first | exact Wk.nil | refine Wk.any ?_ | (with_reducible refine Wk.same ?_) | refine Wk.of ?_ ?_)) <;> first | rfl | (rw [hn]; done) | (rw [← Nat.add_assoc, hs2, hnk]; done))))
    | (have _ := q2; exact Fin.r1 [0] rfl (RV.tmp (by rfl)) ⟨rfl, rfl⟩)
    | (have _ := q1; rw [hce]; exact Fin.r1 [0] rfl (RV.tmp (by rfl)) ⟨rfl, rfl⟩)
    | (rw [hc0]; exact Fin.r1 [0] rfl (RV.tmp (by rfl)) ⟨rfl, rfl⟩)

end Go.Proofs.YtpffahmmklpifaaGreat.Abs

/- Sorts of rows of ours, by the library's contracts. -/
namespace Go.Proofs.YtpffahmmklpifaaGreat.Abs
open Go.Proofs Go.RowKit
set_option linter.unusedVariables false
set_option linter.unusedSimpArgs false
set_option maxRecDepth 100000
set_option maxHeartbeats 2000000
attribute [local irreducible] OpA AL AW DL DLM DLR DLS QOp POp VCalls VCallsI
open Go.Shelf Go.Lib Go.Sort
section
variable {α : Type} [Inhabited α] {P : Program} {w : World} {base : Nat} {ty : TypeId} {sz n cap blk : Nat} {xs : List Value}
theorem heap_mapBlock (w : World) (blk : Nat) (f : Array Value → Array Value) (k : Nat) : (Sort.mapBlock w blk f).heap[k]? = if blk = k then (w.heap[k]?).map (Sort.onCells f) else w.heap[k]? := by
  unfold Sort.mapBlock
  simp only [Array.getElem?_modify]
theorem put_own (enc : α → Value) (hown : w.ownsRow base ty sz (.slice (some ⟨blk, 0, none⟩) n cap) n xs) (d : Array α) (hd : d.size = n * sz) (m : Nat) (os : Array Obj) :
    w.grownBy (Sort.grow (Sort.putRow enc (Sort.ahead w m) blk 0 d) os) (some blk) ∧ (Sort.grow (Sort.putRow enc (Sort.ahead w m) blk 0 d) os).ownsRow base ty sz (.slice (some ⟨blk, 0, none⟩) n cap) n (d.toList.map enc) := by
  obtain ⟨hx, h⟩ := hown
  rcases h with ⟨e, _⟩ | ⟨g, cap', cur, e, hb, hg, hnc, hcm, hcs, ht⟩
  · cases e
  · cases e
    have hlt : blk < w.heap.size := (Array.getElem?_eq_some_iff.1 hg).1
    have hh : ∀ k, k < w.heap.size → (Sort.grow (Sort.putRow enc (Sort.ahead w m) blk 0 d) os).heap[k]? = if blk = k then (w.heap[k]?).map (Sort.onCells (Sort.putCells enc 0 d)) else w.heap[k]? := fun k hk => by
      have e1 : (Sort.grow (Sort.putRow enc (Sort.ahead w m) blk 0 d) os).heap[k]? = (Sort.putRow enc (Sort.ahead w m) blk 0 d).heap[k]? := by
        unfold Sort.grow
        exact Array.getElem?_append_left (by rw [Sort.size_putRow]; exact hk)
      rw [e1]
      exact heap_mapBlock (Sort.ahead w m) blk _ k
    refine ⟨⟨rfl, rfl, rfl, by rw [Sort.size_grow, Sort.size_putRow]; exact Nat.le_add_right _ _, fun k hk hne => by rw [hh k hk, if_neg (fun e => hne (by rw [e]))]⟩, by rw [List.length_map, Array.length_toList, hd], .inr ⟨blk, cap, Sort.putCells enc 0 d cur, rfl, hb, by rw [hh blk hlt, if_pos rfl, hg]; rfl, hnc, hcm, by simp [Sort.putCells, hcs], ?_⟩⟩
    refine List.ext_getElem? fun j => ?_
    have hnz : n * sz ≤ cap * sz := Nat.mul_le_mul_right _ hnc
    rw [List.getElem?_take, List.getElem?_map]
    by_cases hj : j < n * sz
    · rw [if_pos hj]
      have hjd : j < d.size := by omega
      have hjc : j < cur.size := by omega
      simp only [Sort.putCells, Array.toList_mapIdx, List.getElem?_mapIdx, Array.getElem?_toList, Array.getElem?_eq_getElem hjc, Array.getElem?_eq_getElem hjd, Option.map_some]
      rw [if_pos ⟨by omega, by omega⟩, Nat.sub_zero, getElem!_pos d j hjd]
    · rw [if_neg hj, Array.getElem?_toList, Array.getElem?_eq_none (by omega)]
      rfl
theorem own_holds (enc : α → Value) (d : Array α) (hd : d.size = n * sz) (hown : w.ownsRow base ty sz (.slice (some ⟨blk, 0, none⟩) n cap) n (d.toList.map enc)) : Sort.Holds enc w blk 0 d ∧ blk < w.heap.size := by
  obtain ⟨hx, h⟩ := hown
  rcases h with ⟨e, _⟩ | ⟨g, cap', cur, e, hb, hg, hnc, hcm, hcs, ht⟩
  · cases e
  · cases e
    have hlt : blk < w.heap.size := (Array.getElem?_eq_some_iff.1 hg).1
    refine ⟨fun j hj => ⟨?_, by simp [World.frozen?, hg]⟩, hlt⟩
    rw [Nat.zero_add, cell_of_row w blk j cur ty (0, 0) hg]
    have h2 : (cur.toList.take (n * sz))[j]? = (d.toList.map enc)[j]? := by rw [ht]
    rw [List.getElem?_take, if_pos (by omega), List.getElem?_map, Array.getElem?_toList, Array.getElem?_toList, Array.getElem?_eq_getElem hj] at h2
    rw [h2, getElem!_pos d j hj]
    rfl
theorem flatV_map {β : Type} (en : β → List AV) (vl : β → List Value) (h : ∀ x, en x = (vl x).map .c) (l : List β) : flatV (l.map en) = (l.map vl).flatten := by
  unfold flatV
  rw [List.map_map]
  congr 1
  refine List.map_congr_left fun x _ => ?_
  show (en x).map valOf = vl x
  rw [h x, List.map_map]
  exact (List.map_congr_left (g := id) fun _ _ => rfl).trans (List.map_id _)
theorem PlR.map {β : Type} {k : Nat} (en : β → List AV) (vl : β → List Value) (h : ∀ x, en x = (vl x).map .c) (hk : ∀ x, (vl x).length = k) (h1 : ∀ x, ∀ v ∈ vl x, v.oneCell' = true) (l : List β) : PlR k (l.map en) :=
  ⟨fun r hr => by
    obtain ⟨x, _, rfl⟩ := List.mem_map.1 hr
    rw [h, List.length_map, hk], fun r hr y hy => by
    obtain ⟨x, _, rfl⟩ := List.mem_map.1 hr
    rw [h] at hy
    obtain ⟨v, hv, rfl⟩ := List.mem_map.1 hy
    exact ⟨v, rfl, h1 x v hv⟩⟩
theorem flatK_toList (enc : α → List Value) (k : Nat) (hk : ∀ x, (enc x).length = k) (l : List α) : (Go.Sort.flatK enc k l.toArray).toList = (l.map enc).flatten := by
  obtain ⟨f1, f2⟩ := flat_get (sz := k) (l.map enc) (fun r hr => by
    obtain ⟨x, _, rfl⟩ := List.mem_map.1 hr
    exact hk x)
  have hs : (Go.Sort.flatK enc k l.toArray).size = l.length * k := by rw [Go.Sort.size_flatK]; simp
  refine List.ext_getElem? fun j => ?_
  by_cases hj : j < l.length * k
  · have h0 : 0 < k := by
      rcases Nat.eq_zero_or_pos k with e | e
      · subst e; omega
      · exact e
    have hi : j / k < l.length := (Nat.div_lt_iff_lt_mul h0).2 hj
    have e := f2 (j / k) (j % k) (enc l[j / k]) (by rw [List.getElem?_map, List.getElem?_eq_getElem hi]; rfl) (Nat.mod_lt _ h0)
    rw [Nat.div_add_mod'] at e
    have hi2 : j / k < l.toArray.size := by simpa using hi
    have hm : j % k < (enc l[j / k]).length := by rw [hk]; exact Nat.mod_lt _ h0
    have hg := Go.Sort.get_flatK enc k l.toArray j (by simpa using hj)
    have hj2 : j < (Go.Sort.flatK enc k l.toArray).size := by rw [hs]; exact hj
    rw [getElem!_pos (Go.Sort.flatK enc k l.toArray) j hj2, getElem!_pos l.toArray (j / k) hi2] at hg
    simp only [List.getElem_toArray] at hg
    rw [getElem!_pos (enc l[j / k]) (j % k) hm] at hg
    rw [e, Array.getElem?_toList, Array.getElem?_eq_getElem hj2, hg, List.getElem?_eq_getElem hm]
  · rw [List.getElem?_eq_none (by rw [Array.length_toList, hs]; omega), List.getElem?_eq_none (by rw [f1, List.length_map]; omega)]
end

theorem flat1 {α β : Type} (f : α → β) (l : List α) : (l.map fun x => [f x]).flatten = l.map f := by
  induction l with
  | nil => rfl
  | cons a l ih => rw [List.map_cons, List.flatten_cons, ih]; rfl
abbrev vI (x : Int) : List Value := [.int .i64 x]
theorem plI (l : List Int) : PlR 1 (l.map enI) := PlR.map enI vI (fun _ => rfl) (fun _ => rfl) (fun x v hv => by simp [vI] at hv; subst hv; rfl) l
theorem flI (l : List Int) : flatV (l.map enI) = l.toArray.toList.map (Value.int .i64) := by rw [flatV_map enI vI (fun _ => rfl) l]; exact flat1 _ l
section
variable {P : Program} {f : FuncId} {ty : TypeId}
theorem sort_ints (hs : ∀ (blk off cap : Nat) (zs : List Int) (w : World), Sort.Holds (Value.int .i64) w blk off zs.toArray → blk < w.heap.size → zs.length < 4611686018427387904 → Calls P f #[.slice (some ⟨blk, off, none⟩) zs.length cap] w fun e w' => e = .returned (.tuple #[]) ∧ ∃ n os, w' = Sort.grow (Sort.putRow (Value.int .i64) (Sort.ahead w n) blk off (zs.mergeSort fun x y => decide (x ≤ y)).toArray) os)
    (h0 : ∀ (p : Option Addr) (cap : Nat) (w : World), Calls P f #[.slice p 0 cap] w fun e w' => e = .returned (.tuple #[]) ∧ w' = w) (l : List Int) (hl : l.length ≤ 1073741824) :
    ACalls P f [.own 0 0] [some ⟨ty, 1, 0, false, l.map enI⟩] (fun r M' => r = .c (.tuple #[]) ∧ ∃ Mx, M' = [⟨ty, 1, 0, false, (l.mergeSort fun x y => decide (x ≤ y)).map enI⟩].map some ++ Mx) := by
  refine acalls_put (extra := []) (ex := []) (plI l) (plI _) (by simp [List.length_mergeSort]) (fun w Fx β G us h => Array.eq_empty_of_size_eq_zero h.1) (fun w base v hown hb => ?_)
  rw [flI] at hown
  rw [flI]
  rcases hown.2 with ⟨rfl, hn⟩ | ⟨g, cap, cur, rfl, _⟩
  · have e : l = [] := by simpa using hn
    subst e
    refine (h0 none 0 w).mono ?_
    rintro e w' ⟨rfl, rfl⟩
    exact ⟨rfl, ⟨rfl, rfl, rfl, Nat.le_refl _, fun _ _ _ => rfl⟩, by simpa using hown⟩
  · obtain ⟨h1, h2⟩ := own_holds (Value.int .i64) l.toArray (by simp) hown
    rw [List.length_map] at *
    refine (hs g 0 cap l w h1 h2 (by omega)).mono ?_
    rintro e w' ⟨rfl, n, os, rfl⟩
    obtain ⟨q1, q2⟩ := put_own (Value.int .i64) hown (l.mergeSort fun x y => decide (x ≤ y)).toArray (by simp [List.length_mergeSort]) n os
    exact ⟨rfl, q1, q2⟩
theorem compact_ints (hs : ∀ (blk off cap : Nat) (zs : List Int) (w : World), Sort.Holds (Value.int .i64) w blk off zs.toArray → zs.length ≤ 9223372036854775807 → zs.length ≤ cap → Calls P f #[.slice (some ⟨blk, off, none⟩) zs.length cap] w fun e w' => e = .returned (.slice (some ⟨blk, off, none⟩) (Lib.compact zs).length cap) ∧ ∃ q, w' = Sort.putRow (Value.int .i64) (Sort.ahead w q) blk off (Lib.compact zs ++ List.replicate (zs.length - (Lib.compact zs).length) 0).toArray)
    (h0 : ∀ (p : Option Addr) (cap : Nat) (w : World), Calls P f #[.slice p 0 cap] w fun e w' => e = .returned (.slice p 0 cap) ∧ w' = w) (l : List Int) (hl : l.length ≤ 1073741824) :
    HCalls P f [.own 0 0] [some ⟨ty, 1, 0, false, l.map enI⟩] (fun r M' => r = .own 0 0 ∧ M' = [some ⟨ty, 1, 0, false, (Lib.compact l).map enI⟩]) := by
  refine hcalls_put (plI l) (plI _) (fun w base v hown hb => ?_)
  rw [flI] at hown
  rw [flI]
  rcases hown.2 with ⟨rfl, hn⟩ | ⟨g, cap, cur, rfl, hbg, hg, hnc, hcm, hcs, ht⟩
  · have e : l = [] := by simpa using hn
    subst e
    refine (h0 none 0 w).mono ?_
    rintro e w' ⟨rfl, rfl⟩
    exact ⟨_, rfl, ⟨rfl, rfl, rfl, Nat.le_refl _, fun _ _ _ => rfl⟩, World.ownsRow_nil _ _ _ _, fun k hk => hk⟩
  · obtain ⟨h1, h2⟩ := own_holds (Value.int .i64) l.toArray (by simp) hown
    rw [List.length_map] at *
    refine (hs g 0 cap l w h1 (by omega) hnc).mono ?_
    rintro e w' ⟨rfl, q, rfl⟩
    have hcl : (Lib.compact l).length ≤ l.length := by rw [compact_cp]; exact cp_len _ _
    obtain ⟨q1, q2⟩ := put_own (Value.int .i64) hown (Lib.compact l ++ List.replicate (l.length - (Lib.compact l).length) 0).toArray (by simp; omega) q #[]
    rw [Sort.grow_empty] at q1 q2
    refine ⟨_, rfl, q1, ?_, fun k hk => hk⟩
    obtain ⟨_, q3⟩ := q2
    rcases q3 with ⟨e, _⟩ | ⟨g', cap', cur', e, p1, p2, p3, p4, p5, p6⟩
    · cases e
    · cases e
      have el : ((Lib.compact l).map enI).length = (Lib.compact l).length := List.length_map _
      rw [el]
      refine ⟨by simp, .inr ⟨g, cap, cur', rfl, p1, p2, by omega, p4, p5, ?_⟩⟩
      have e3 := congrArg (List.take ((Lib.compact l).length * 1)) p6
      rw [List.take_take, Nat.min_eq_left (by simp; omega)] at e3
      rw [e3]
      simp
end
section
variable {P : Program} {f g : FuncId} {ty : TypeId} {α : Type} [Inhabited α] {k : Nat}
theorem sort_k (en : α → List AV) (vl : α → List Value) (hen : ∀ x, en x = (vl x).map .c) (hk : ∀ x, (vl x).length = k) (h1v : ∀ x, ∀ v ∈ vl x, v.oneCell' = true) (l l' : List α) (hll : l'.length = l.length) (hl : l.length ≤ 1073741824)
    (hs : ∀ (blk cap : Nat) (w : World), Sort.HoldsK vl k w blk 0 l.toArray → blk < w.heap.size → Calls P f #[.slice (some ⟨blk, 0, none⟩) l.length cap, .func (.func g) #[] #[]] w fun e w' => e = .returned (.tuple #[]) ∧ ∃ n os, w' = sortWorldK vl k w blk 0 n l'.toArray os)
    (h0 : ∀ (p : Option Addr) (cap : Nat) (fv : Value) (w : World), Calls P f #[.slice p 0 cap, fv] w fun e w' => e = .returned (.tuple #[]) ∧ w' = w) :
    ACalls P f [.own 0 0, .fn g []] [some ⟨ty, k, 0, false, l.map en⟩] (fun r M' => r = .c (.tuple #[]) ∧ ∃ Mx, M' = [⟨ty, k, 0, false, l'.map en⟩].map some ++ Mx) := by
  refine acalls_put (extra := [.fn g []]) (ex := [.func (.func g) #[] #[]]) (PlR.map en vl hen hk h1v l) (PlR.map en vl hen hk h1v l') (by simp [hll]) (fun w Fx β G us h => ?_) (fun w base v hown hb => ?_)
  · obtain ⟨h1, h2⟩ := h
    obtain ⟨ul, rfl⟩ : ∃ ul : List Value, us = ul.toArray := ⟨us.toList, by simp⟩
    match ul, h1 with
    | [u], _ =>
      have := h2 0 _ u rfl (by simp)
      cases this with
      | @fn _ _ us2 hl2 _ =>
        obtain rfl : us2 = [] := List.eq_nil_of_length_eq_zero (by simpa using hl2)
        rfl
  · rw [flatV_map en vl hen, ← flatK_toList vl k hk] at hown
    rw [flatV_map en vl hen, ← flatK_toList vl k hk]
    rw [List.length_map] at *
    have hmid : ∀ L : List Value, L.map id = L := List.map_id
    rcases hown.2 with ⟨rfl, hn⟩ | ⟨b, cap, cur, rfl, _⟩
    · have e : l = [] := List.eq_nil_of_length_eq_zero hn
      subst e
      have e2 : l' = [] := List.eq_nil_of_length_eq_zero (by simpa using hll)
      subst e2
      refine (h0 none 0 (.func (.func g) #[] #[]) w).mono ?_
      rintro e w' ⟨rfl, rfl⟩
      exact ⟨rfl, ⟨rfl, rfl, rfl, Nat.le_refl _, fun _ _ _ => rfl⟩, hown⟩
    · rw [← hmid (Go.Sort.flatK vl k l.toArray).toList] at hown
      obtain ⟨h1, h2⟩ := own_holds id (Go.Sort.flatK vl k l.toArray) (by rw [Go.Sort.size_flatK]; simp) hown
      refine (hs b cap w h1 h2).mono ?_
      rintro e w' ⟨rfl, n, os, rfl⟩
      obtain ⟨q1, q2⟩ := put_own id hown (Go.Sort.flatK vl k l'.toArray) (by rw [Go.Sort.size_flatK]; simp [hll]) n os
      rw [hmid] at q2
      exact ⟨rfl, q1, q2⟩
end

def orZ (x y : Int) : Int := if x ≠ 0 then x else y
theorem cell_lit (w : World) (a b : Value) (t : TypeId) (k : Nat) (hk : k = w.heap.size) : (w.alloc (.cells #[a, b] t)).drew.cell? ⟨k, 0, none⟩ = some a ∧ (w.alloc (.cells #[a, b] t)).drew.cell? ⟨k, 1, none⟩ = some b := by
  subst hk
  have h : (w.alloc (.cells #[a, b] t)).drew.heap[w.heap.size]? = some (.cells #[a, b] t) := heap_alloc_new w _
  exact ⟨cell_of_row _ _ 0 _ t (0, 0) h, cell_of_row _ _ 1 _ t (0, 0) h⟩
theorem alloc2_size (w : World) (o p : Obj) : w.heap.size + 1 + 1 = ((w.alloc o).alloc p).heap.size := by
  rw [alloc_eq_grow, alloc_eq_grow, grow_grow, size_grow]
  rfl
set_option maxHeartbeats 2000000 in
set_option maxRecDepth 100000 in
theorem cmpOr (x y : Int) (b c : Nat) (w : World) (h0 : w.cell? ⟨b, 0, none⟩ = some (.int .i64 x)) (h1 : w.cell? ⟨b, 1, none⟩ = some (.int .i64 y)) :
    Calls Tryz.prog 127 #[.slice (some ⟨b, 0, none⟩) 2 c] w fun e w' => e = .returned (.int .i64 (orZ x y)) ∧ w' = w := by
  go_enter Tryz.func127, Tryz.ntmps127
  go_wp2
  go_loopg [5, 8] 2 (fun g _ s8 wr => ∃ kk : Nat, kk ≤ 2 ∧ 2 - kk ≤ g ∧ s8 = .int .i64 kk ∧ wr = w ∧ Aside ((0 < kk → x = 0) ∧ (1 < kk → y = 0)))
  case atStart => exact ⟨0, Nat.zero_le _, by omega, rfl, rfl, ⟨fun h => absurd h (by omega), fun h => absurd h (by omega)⟩⟩
  case round =>
    obtain ⟨kk, hkk, hg, rfl, rfl, A⟩ := hrel
    match kk, hkk with
    | 0, _ =>
      by_cases hx : x = 0
      · go_wp2
        go_roundg 1
        case measure => omega
        case rel => exact ⟨1, by omega, by omega, by go_num, rfl, ⟨fun _ => hx, fun h => absurd h (by omega)⟩⟩
      · go_wp2
        go_ret
        exact ⟨by simp [orZ, hx], rfl⟩
    | 1, _ =>
      have hx : x = 0 := A.out.1 (by omega)
      by_cases hy : y = 0
      · go_wp2
        go_roundg 0
        case measure => omega
        case rel => exact ⟨2, by omega, by omega, by go_num, rfl, ⟨fun _ => hx, fun _ => hy⟩⟩
      · go_wp2
        go_ret
        exact ⟨by simp [orZ, hx], rfl⟩
    | 2, _ =>
      have hx : x = 0 := A.out.1 (by omega)
      have hy : y = 0 := A.out.2 (by omega)
      go_wp2
      go_ret
      exact ⟨by simp [orZ, hx, hy], rfl⟩
theorem cmpOr2 (x y : Int) (w : World) (o p : Obj) (t : TypeId) : Calls Tryz.prog 127 #[.slice (some ⟨w.heap.size + 1 + 1, 0, none⟩) 2 2] (((w.alloc o).alloc p).alloc (.cells #[.int .i64 x, .int .i64 y] t)).drew fun e w' => e = .returned (.int .i64 (orZ x y)) ∧ w' = (((w.alloc o).alloc p).alloc (.cells #[.int .i64 x, .int .i64 y] t)).drew :=
  cmpOr x y _ _ _ (cell_lit _ _ _ _ _ (alloc2_size _ _ _)).1 (cell_lit _ _ _ _ _ (alloc2_size _ _ _)).2
theorem step_callR {P : Program} {ops : Array Oper} {o : Oper} {a : Act} {w : World} {K : Act → World → Prop} {Q : Exit → Act → World → Prop} {E : Prop} (hg : o.guard = none) {f : FuncId} {fn : Func} {args : Array Operand} {ts : Array TypeId} (ho : o.op = .call { callee := .value (.func f), args := args, argTypes := ts }) (hf : P.funcs[f]? = some fn)
    (hn : (fn.name == "runtime.NumGoroutine") = false) (hb : fn.body.isSome = true) (vals : Array Value) (hv : args.map a.eval = vals) {v : Value} {w' : World} (hc : Calls P f vals w fun e w2 => e = .returned v ∧ w2 = w') (hK : K (a.put o.dst v) w') :
    if Region.wanted o (yielded ops a.tmps) = true then Oper.wp P o a w K Q else E := by
  have hw : Region.wanted o (yielded ops a.tmps) = true := by simp [Region.wanted, hg]
  rw [if_pos hw]
  subst hv
  unfold Oper.wp
  rw [run_call ho hf hn hb, Oper.upon_enter]
  refine hc.mono ?_
  rintro e w2 ⟨rfl, rfl⟩
  exact hK
set_option maxHeartbeats 2000000 in
set_option maxRecDepth 100000 in
theorem cmpP_calls (x y : TPiece) (W : World) : Calls Tryz.prog 126 #[.agg #[.int .i64 x.id, .int .i64 x.part], .agg #[.int .i64 y.id, .int .i64 y.part]] W fun e w' => e = .returned (.int .i64 (cmpP x y)) ∧ ∃ q os', w' = grow (W.drewN q) os' := by
  have mixed : Tryz.prog.follows .mixedOrders = true := by kernel_rfl
  have e1 : ∀ r s, orZ r s = orZ r s := fun _ _ => rfl
  generalize hr : compareInt x.id y.id = r
  generalize hs : compareInt x.part y.part = s
  have hr1 : ∀ w, Calls Tryz.prog 128 #[.int .i64 x.id, .int .i64 y.id] w fun e w' => e = .returned (.int .i64 r) ∧ w' = w := fun w => hr ▸ Tryz.cmp_Compare_int x.id y.id w
  have hs1 : ∀ w, Calls Tryz.prog 128 #[.int .i64 x.part, .int .i64 y.part] w fun e w' => e = .returned (.int .i64 s) ∧ w' = w := fun w => hs ▸ Tryz.cmp_Compare_int x.part y.part w
  have ho := fun W o p t => cmpOr2 r s W o p t
  generalize hz : orZ r s = z at ho
  have hfin : cmpP x y = z := by rw [← hz, ← hr, ← hs]; rfl
  rw [hfin]
  clear hr hs hz hfin e1
  go_enter Tryz.func126, Tryz.ntmps126
  go_wp2_with (fail)
  go_region_law_o (first | (refine step_callR rfl rfl Tryz.func128 (by rfl) (by rfl) #[.int .i64 x.id, .int .i64 y.id] ?_ (hr1 _) ?_; (focus (simp [Act.eval]; done))) | (refine step_callR rfl rfl Tryz.func128 (by rfl) (by rfl) #[.int .i64 x.part, .int .i64 y.part] ?_ (hs1 _) ?_; (focus (simp [Act.eval]; done))) | (refine step_callR rfl rfl Tryz.func127 (by rfl) (by rfl) #[.slice (some ⟨W.heap.size + 1 + 1, 0, none⟩) 2 2] ?_ (ho _ _ _ _) ?_; (focus (simp [Act.eval]; done))))
  all_goals
    go_wp2
    go_ret
    exact ⟨rfl, 1, _, by rw [alloc_eq_grow, alloc_eq_grow, alloc_eq_grow, grow_grow, grow_grow]; rfl⟩

abbrev vP (x : TPiece) : List Value := [.int .i64 x.id, .int .i64 x.part]
theorem ltP_iff (x y : TPiece) : ltOf cmpP x y = true ↔ plt x y := by
  unfold ltOf
  rw [decide_eq_true_iff]
  exact cmpP_lt x y
theorem swoP : SWO (ltOf cmpP) where
  irrefl x := by
    cases h : ltOf cmpP x x
    · rfl
    · exact absurd ((ltP_iff x x).1 h) (sto_plt.irr x)
  trans x y z h1 h2 := (ltP_iff x z).2 (sto_plt.tr _ _ _ ((ltP_iff x y).1 h1) ((ltP_iff y z).1 h2))
  ntrans x y z h1 h2 := by
    cases h : ltOf cmpP x z
    · rfl
    · have h3 := (ltP_iff x z).1 h
      rcases sto_plt.tri x y with h4 | rfl | h4
      · rw [(ltP_iff x y).2 h4] at h1; cases h1
      · rw [h] at h2; cases h2
      · have := sto_plt.tr _ _ _ h4 h3
        rw [(ltP_iff y z).2 this] at h2; cases h2
theorem sortP (l : List TPiece) (hl : l.length ≤ 1073741824) : ACalls Tryz.prog 125 [.own 0 0, .fn 126 []] [some ⟨87, 2, 0, false, l.map TPiece.en⟩] (fun r M' => r = .c (.tuple #[]) ∧ ∃ Mx, M' = [⟨87, 2, 0, false, (srtP l).map TPiece.en⟩].map some ++ Mx) :=
  sort_k TPiece.en vP (fun _ => rfl) (fun _ => rfl) (fun x v hv => by simp [vP] at hv; rcases hv with rfl | rfl <;> rfl) l (srtP l) (srtP_len l) hl
    (fun blk cap w hH hb => by
      have h := AnyQ.slices_SortFunc_total Tryz.laysSortP 2 Tryz.isAgg87 Tryz.sizeOf87 vP (fun _ => rfl) (fun x v hv => by simp [vP] at hv; rcases hv with rfl | rfl <;> rfl) cmpP swoP 126 #[] blk 0 cap l.toArray w (enters_of Tryz.func126 (by kernel_rfl) rfl) (fun _ _ _ _ x y => cmpP_calls x y _) hH hb (by simp; omega) (fun x y h1 h2 => by
        rcases sto_plt.tri x y with h | h | h
        · rw [(ltP_iff x y).2 h] at h1; cases h1
        · exact h
        · rw [(ltP_iff y x).2 h] at h2; cases h2)
      exact h)
    (fun p cap fv w => AnyF.slices_SortFunc_none Tryz.laysSortP p cap fv w)
theorem sortI (l : List Int) (hl : l.length ≤ 1073741824) : ACalls Tryz.prog 62 [.own 0 0] [some ⟨3, 1, 0, false, l.map enI⟩] (fun r M' => r = .c (.tuple #[]) ∧ ∃ Mx, M' = [⟨3, 1, 0, false, (l.mergeSort fun x y => decide (x ≤ y)).map enI⟩].map some ++ Mx) :=
  sort_ints (fun blk off cap zs w h1 h2 h3 => Tryz.slices_Sort_int blk off cap zs w h1 h2 h3) (fun p cap w => Tryz.slices_Sort_int_none p cap w) l hl
theorem compI (l : List Int) (hl : l.length ≤ 1073741824) : HCalls Tryz.prog 65 [.own 0 0] [some ⟨3, 1, 0, false, l.map enI⟩] (fun r M' => r = .own 0 0 ∧ M' = [some ⟨3, 1, 0, false, (Lib.compact l).map enI⟩]) :=
  compact_ints (fun blk off cap zs w h1 h2 h3 => Tryz.slices_Compact_int blk off cap zs w h1 h2 h3) (fun p cap w => Tryz.slices_Compact_int_empty p cap w) l hl
end Go.Proofs.YtpffahmmklpifaaGreat.Abs

/- The walk of JoinTiles (program). -/
namespace Go.Proofs.YtpffahmmklpifaaGreat.Abs
open Go.Proofs Go.RowKit
set_option linter.unusedVariables false
set_option linter.unusedSimpArgs false
set_option maxRecDepth 100000
set_option maxHeartbeats 2000000
attribute [local irreducible] OpA AL AW DL DLM DLR DLS QOp POp VCalls VCallsI
theorem join_i (l : List TFeature) (hl : l.length ≤ 1048576) (hp : ∀ x ∈ l, x.gd)(ts : List Int) (hts : ts.length ≤ 441) (htr : ∀ t ∈ ts, inr t 0 440 = true) : VCalls Tryz.prog 64 [.ro 5 (l.map TFeature.en), .ro 1 (ts.map enI)] (fun r M => r = .own 0 0 ∧ M = [some ⟨87, 2, 0, false, (joinT l ts).map TPiece.en⟩]) := by
  refine VB Tryz.func64 23 (fun E hE => ?_)
  have hclo : Clo (.ro 5 (l.map TFeature.en)) := clo_list TFeature.clo_en
  have hclT : Clo (.ro 1 (ts.map enI)) := clo_list clo_enI
  repeat' ((first
    | (refine iAL ?_; first | refine AL.any ?_ | refine AL.any (h := POp.k Tryz.func124 (hc := pcI_i l hl hp x (htr x (List.mem_of_getElem? hx)))) ?_ | refine AL.any (h := POp.H [0] Tryz.func125 (hc := sortP (psTo l ts ts.length) (by have := psTo_len l ts ts.length (Nat.le_refl _); omega))) ?_ | refine AL.any (h := POp.G [0] Tryz.func129 (hc := compP (srtP (psTo l ts ts.length)) (by rw [srtP_len]; have := psTo_len l ts ts.length (Nat.le_refl _); omega))) ?_ | refine AL.nil ?_)
    | (refine iAW ?_; first | (refine AW.c0 ?_; constructor) | refine AW.cT ?_ | refine AW.cF ?_ | (refine AW.c2 ?_ ?_ <;> (intro h; try simp only [bT, bF] at h)))
    | (refine AW.loopD hE (fun i : Nat => [.ro 5 (l.map TFeature.en), .any, .any, .any, .any, .own 0 i, .any, .any, .any, .ro 1 (ts.map enI), I ((ts.map enI).length : Int), I (i : Int), .any, .any, .any, .any, .any, .any, .any, .any, .any, .any, .any, .any, .any]) (fun i => [some ⟨87, 2, i, false, (psTo l ts i).map TPiece.en⟩]) (fun i => ts.length - i) (fun i => i ≤ ts.length) 0 (by simp) ?_ (by first | rfl | (simp [fil_zero]; done)) ?_
       (focus ((repeat' (first | exact Wk.nil | refine Wk.any ?_ | (with_reducible refine Wk.same ?_) | refine Wk.of ?_ ?_)) <;> first | rfl | (simp_all)))
       intro i hi
       by_cases hlt : i < ts.length
       case' pos =>
         have hP := True.intro
         obtain ⟨x, hx⟩ : ∃ x, ts[i]? = some x := ⟨_, List.getElem?_eq_getElem hlt⟩
         have hg := map_get (f := enI) hx
         have ht := lt_true (f := enI) hlt
         have hn := next_ix hlt (by omega)
         have hps := psTo_succ (l := l) hx
         have hm : (psTo l ts (i + 1)).map TPiece.en = (psTo l ts i).map TPiece.en ++ (pcI l x).map TPiece.en := by rw [hps, List.map_append]
         have hln := psTo_len l ts i (by omega)
         have hpl := pcI_len l x
         have hclQ : Clo (.ro 2 ((pcI l x).map TPiece.en)) := clo_list TPiece.clo_en
       case' neg =>
         have hQ := True.intro
         have ht := lt_false (f := enI) hlt
         have e : i = ts.length := by omega
         subst e
         try rw [List.take_length])
    | with_reducible refine ifP ?_
    | with_reducible refine ifN ?_) <;> (try dsimp only))
  all_goals first
    | (have _ := hP; (refine ⟨i + 1, _, hlt, by omega, ?_, by rw [hm] <;> rfl, ?_, ?_⟩; (focus (exact wkN)); (focus (exact fitsA)); (focus (exact fits_row (clo_rows TPiece.clo_en)))))
    | (have _ := hQ; exact Fin.r1 [1] rfl (RV.tmp (by rfl)) ⟨rfl, by unfold joinT; rw [← joinP_sorted] <;> rfl⟩)

theorem clonePoint (l : List TPoint) (hl : l.length ≤ 1048576) : VCalls Tryz.prog 178 [.ro 2 (l.map TPoint.en)] (fun r M => r = .own 0 0 ∧ M = [some ⟨141, 2, 0, false, l.map TPoint.en⟩]) := by
  refine VB Tryz.func178 7 (fun E hE => ?_)
  have hclo : Clo (.ro 2 (l.map TPoint.en)) := clo_list TPoint.clo_en
  repeat' ((first
    | (refine iAL ?_; first | refine AL.any ?_ | refine AL.nil ?_)
    | (refine iAW ?_; first | (refine AW.adoptRet (t := 2) 141 2 rfl Adopt.nil ?_) | (refine AW.c0 ?_; constructor) | refine AW.cT ?_ | refine AW.cF ?_ | (refine AW.c2 ?_ ?_ <;> (intro h; try simp only [bT, bF] at h)))
    | ((refine AL.isnil (by rfl) (by rfl) (TT_ok.sl _ _ (by rfl)) (by rfl) (fun bn hbn => ?_)); dsimp only [sh0_own, sh0_c, sh1_own, sh1_c, sh1_agg, shA_own, shA_c, shA_agg, shA_tup, dput, List.set, cond_true, cond_false, Nat.zero_add, Nat.add_zero, Nat.reduceAdd, splice, List.take, List.drop, List.length, List.nil_append, List.cons_append, List.append, TPoint.en, TSegment.en, TBox.en, TFeature.en, TMeet.en, TPlace.en, TCover.en, TLabel.en, TPiece.en, TLevel.en, TChart.en, TReason.en, TEdit.en, TEntry.en, TEdition.en, TListing.en, TAtlas.en, TEvent.en, TWindow.en])) <;> (try dsimp only))
  all_goals exact Fin.r1 [0] rfl (RV.tmp (by rfl)) ⟨rfl, by first | rfl | (rw [hbn (by assumption)] <;> rfl)⟩

theorem cloneF (x : TFeature) (hs : x.sm) : VCalls Tryz.prog 118 [.agg x.en] (fun r M => r = .agg x.eo ∧ M = x.rw) := by
  refine VB Tryz.func118 7 (fun E hE => ?_)
  have hclo0 : Clo (.ro 2 (x.points.map TPoint.en)) := clo_list TPoint.clo_en
  have hcle : Clo (.agg x.en) := Clo.agg x.clo_en
  have hsl : x.points.length ≤ 1048576 := hs
  dsimp only [TFeature.en]
  repeat' ((first
    | (refine iAL ?_; first | refine AL.any ?_ | refine AL.any (h := POp.O Tryz.func178 (hc := clonePoint _ (by assumption))) ?_ | refine AL.nil ?_)
    | (refine iAW ?_; first | (refine AW.c0 ?_; constructor))) <;> (try dsimp only))
  all_goals exact Fin.r1 [2] rfl (RV.cell (QOp.quietA TT_ok (by rfl))) ⟨rfl, rfl⟩

theorem cloneF_s (x : TFeature) (hs : x.sm) : VCalls Tryz.prog 108 [.agg x.en] (fun r M => r = .agg x.eo ∧ M = x.rw) := by
  refine VB Tryz.func108 8 (fun E hE => ?_)
  have hclo0 : Clo (.ro 2 (x.points.map TPoint.en)) := clo_list TPoint.clo_en
  have hcle : Clo (.agg x.en) := Clo.agg x.clo_en
  have hsl : x.points.length ≤ 1048576 := hs
  dsimp only [TFeature.en]
  repeat' ((first
    | (refine iAL ?_; first | refine AL.any ?_ | refine AL.nil ?_)
    | (refine iAW ?_; first | (refine AW.c0 ?_; constructor))) <;> (try dsimp only))
  all_goals exact Fin.r1 [2] rfl (RV.cell (QOp.quietA TT_ok (by rfl))) ⟨rfl, rfl⟩

def chAt {α : Type} (ok : α → Bool) (lt : α → α → Bool) (d : α) (l : List α) (i : Nat) : Bool := match l[i]? with
  | none => false
  | some x => ok x && (i == 0 || lt (l.getD (i - 1) d) x)
def chOk {α : Type} (ok : α → Bool) (lt : α → α → Bool) (d : α) (l : List α) (n : Nat) : Bool := (List.range n).all (chAt ok lt d l)
theorem chOk_succ {α : Type} (ok : α → Bool) (lt : α → α → Bool) (d : α) (l : List α) (i : Nat) : chOk ok lt d l (i + 1) = (chOk ok lt d l i && chAt ok lt d l i) := by simp [chOk, List.range_succ]
theorem chOk_not {α : Type} {ok : α → Bool} {lt : α → α → Bool} {d : α} {l : List α} {i n : Nat} (h : chAt ok lt d l i = false) (hi : i < n) : chOk ok lt d l n = false := by
  simp only [chOk, List.all_eq_false, List.mem_range]
  exact ⟨i, hi, by simp [h]⟩
theorem ch_cases {α : Type} (ok : α → Bool) (lt : α → α → Bool) (d : α) (en : α → List AV) {l : List α} {i : Nat} {x : α} (hx : l[i]? = some x) (hl : l.length ≤ 1048576) :
    (ok x = false ∧ chAt ok lt d l i = false) ∨ (ok x = true ∧ decide ((i : Int) > 0) = false ∧ chAt ok lt d l i = true) ∨
    (ok x = true ∧ decide ((i : Int) > 0) = true ∧ 0 ≤ IntKind.i64.wrap ((i : Int) - 1) ∧ (l.map en)[(IntKind.i64.wrap ((i : Int) - 1)).toNat]? = some (en (l.getD (i - 1) d)) ∧ chAt ok lt d l i = lt (l.getD (i - 1) d) x) := by
  have hi := (List.getElem?_eq_some_iff.1 hx).1
  cases hI : ok x
  · exact .inl ⟨rfl, by simp [chAt, hx, hI]⟩
  · rcases Nat.eq_zero_or_pos i with h0 | h0
    · subst h0
      exact .inr (.inl ⟨rfl, by simp, by simp [chAt, hx, hI]⟩)
    · have e : IntKind.i64.wrap ((i : Int) - 1) = ((i - 1 : Nat) : Int) := by rw [w64 (by omega) (by omega)]; omega
      refine .inr (.inr ⟨rfl, decide_eq_true (by omega), by omega, ?_, ?_⟩)
      · rw [e, Int.toNat_natCast, List.getElem?_map, List.getElem?_eq_getElem (show i - 1 < l.length by omega)]
        simp [List.getD_eq_getElem?_getD, List.getElem?_eq_getElem (show i - 1 < l.length by omega)]
      · have : (i == 0) = false := by simp; omega
        simp [chAt, hx, hI, this]
def entOk (e : TEntry) : Bool := isFeat e.feature && inr e.tick 0 100000 && inr e.who 1 99
abbrev entLt (u e : TEntry) : Bool := decide (u.feature.id < e.feature.id)
def entD : TEntry := ⟨featD, 0, 0, false⟩
def isLog (l : List TEntry) : Bool := chOk entOk entLt entD l l.length && decide ((l.length : Int) ≤ 16)
theorem entOk_f {e : TEntry} (h : entOk e = false) : isFeat e.feature = false ∨ (isFeat e.feature = true ∧ inr e.tick 0 100000 = false) ∨ (isFeat e.feature = true ∧ inr e.tick 0 100000 = true ∧ inr e.who 1 99 = false) := by
  revert h
  unfold entOk
  cases isFeat e.feature <;> cases inr e.tick 0 100000 <;> cases inr e.who 1 99 <;> simp
theorem entOk_t {e : TEntry} (h : entOk e = true) : isFeat e.feature = true ∧ inr e.tick 0 100000 = true ∧ inr e.who 1 99 = true := by
  revert h
  unfold entOk
  cases isFeat e.feature <;> cases inr e.tick 0 100000 <;> cases inr e.who 1 99 <;> simp
def TAtlas.gd (a : TAtlas) : Prop := (a.log.length ≤ 1048576 ∧ ∀ e ∈ a.log, e.feature.gd) ∧ a.levels.length ≤ 1048576 ∧ (a.editions.length ≤ 1048576 ∧ ∀ e ∈ a.editions, e.source.length ≤ 1048576 ∧ ∀ x ∈ e.source, x.gd) ∧ a.cover.cells.size ≤ maxLen
theorem gdA_of {a : TAtlas} (h1 : a.sm) (h2 : a.ok) : a.gd := by
  obtain ⟨⟨s1, s2⟩, s3, s4, s5⟩ := h1
  obtain ⟨⟨_, k2⟩, _, ⟨_, k4⟩, ⟨_, _, k5⟩, _⟩ := h2
  exact ⟨⟨s1, fun e he => ⟨s2 e he, (k2 e he).1.2.2.2.1⟩⟩, s3, ⟨s4, fun e he => ⟨(s5 e he).1, fun x hx => ⟨(s5 e he).2 x hx, ((k4 e he).2.1.2 x hx).2.2.2.1⟩⟩⟩, k5⟩

theorem isLog_s (l : List TEntry) (hl : l.length ≤ 1048576) (hp : ∀ e ∈ l, e.feature.gd) : VCalls Tryz.prog 107 [.ro 8 (l.map TEntry.en)] (fun r M => r = B (isLog l) ∧ M = []) := by
  refine VB Tryz.func107 57 (fun E hE => ?_)
  have hclo : Clo (.ro 8 (l.map TEntry.en)) := clo_list TEntry.clo_en
  repeat' ((first
    | (refine iAL ?_; first | refine AL.any ?_ | refine AL.U ?_ | refine AL.F ?_ | refine AL.T ?_ | refine AL.W ?_ | refine AL.nil ?_)
    | ((with_reducible show DL ..); first | refine DL.any ?_ | refine DL.any (h := POp.k Tryz.func109 (hc := isFeat_s x.feature (by assumption))) ?_ | refine DL.U ?_ | refine DL.F ?_ | refine DL.T ?_ | refine DL.T (h := POp.k Tryz.func96 (hc := inr_s _ _ _)) ?_ | refine DL.W ?_ | refine DL.W (h := fun h => by (try rw [h]); exact POp.k Tryz.func96 (hc := inr_s _ _ _)) ?_ | refine DL.nil ?_)
    | (refine iAW ?_; first | (refine AW.c0 ?_; constructor) | refine AW.dr (id := 4) 42 ?_ | refine AW.cT ?_ | refine AW.cF ?_ | (refine AW.c2 ?_ ?_ <;> (intro h; try simp only [bT, bF] at h)))
    | (refine AW.loopD hE (fun i : Nat => [.ro 8 (l.map TEntry.en), .any, .any, I (i : Int), .any, .any, .any, .any, .any, .any, .any, .any, .any, .any, .any, .any, .any, .any, .any, .any, .any, .any, .any, .any, .any, .any, .any, .any, .any, .any, .any, .any, .any, .any, .any, .any, .any, .any, .any, .any, .any, .any, .any, .any, .any, .any, .any, .any, .any, .any, .any, .any, .any, .any, .any, .any, .any, .any]) (fun i => []) (fun i => l.length - i) (fun i => i ≤ l.length ∧ chOk entOk entLt entD l i = true) 0 (by simp [chOk]) ?_ (by first | rfl | (simp [fil_zero]; done)) ?_
       (focus (exact wkI))
       intro i hi
       by_cases hlt : i < l.length
       case' pos =>
         have hP := True.intro
         obtain ⟨x, hx⟩ : ∃ x, l[i]? = some x := ⟨_, List.getElem?_eq_getElem hlt⟩
         have hg := map_get (f := TEntry.en) hx
         have ht := lt_true (f := TEntry.en) hlt
         have hn := next_ix hlt (by omega)
         have hgx := hp x (List.mem_of_getElem? hx)
         have hsu := chOk_succ entOk entLt entD l i
         have hclP : Clo (.ro 2 (x.feature.points.map TPoint.en)) := clo_list TPoint.clo_en
         have hcle : Clo (.agg x.en) := Clo.agg x.clo_en
         have hclf : Clo (.agg x.feature.en) := Clo.agg x.feature.clo_en
         rcases ch_cases entOk entLt entD TEntry.en hx hl with ⟨hI, hk⟩ | ⟨hI, hz, hk⟩ | ⟨hI, hz, h0, hp0, hk⟩
         rotate_left 1
         all_goals first | obtain ⟨q1, q2, q3⟩ := entOk_t hI | rcases entOk_f hI with q1 | ⟨q1, q2⟩ | ⟨q1, q2, q3⟩
       case' neg =>
         have hQ := True.intro
         have ht := lt_false (f := TEntry.en) hlt
         have e : i = l.length := by omega
         subst e
         try rw [List.take_length])
    | with_reducible refine ifP ?_
    | with_reducible refine ifN ?_) <;> (try dsimp only))
  all_goals first
    | (have _ := hP; (refine ⟨i + 1, _, ⟨hlt, by simp_all <;> omega⟩, by omega, ?_, rfl, ?_, ?_⟩; (focus (exact wkN)); (focus (exact fitsA)); (focus (exact FitsM.nil _))))
    | (have _ := hP; exact Fin.one rfl (RV.tmp (by rfl)) (clo_c _) ⟨by have hn := chOk_not (ok := entOk) (lt := entLt) (d := entD) (n := l.length) (by simp_all <;> omega : chAt entOk entLt entD l i = false) hlt; simp_all [isLog], rfl⟩)
    | (have _ := hQ; exact Fin.one rfl (RV.tmp (by rfl)) (clo_c _) ⟨by first | (simp_all [isLog]; done) | (simp_all [isLog] <;> omega), rfl⟩)

theorem isLog_i (l : List TEntry) (hl : l.length ≤ 1048576) (hp : ∀ e ∈ l, e.feature.gd) : VCalls Tryz.prog 117 [.ro 8 (l.map TEntry.en)] (fun r M => r = B (isLog l) ∧ M = []) := by
  refine VB Tryz.func117 48 (fun E hE => ?_)
  have hclo : Clo (.ro 8 (l.map TEntry.en)) := clo_list TEntry.clo_en
  repeat' ((first
    | (refine iAL ?_; first | refine AL.any ?_ | refine AL.U ?_ | refine AL.F ?_ | refine AL.T ?_ | refine AL.W ?_ | refine AL.nil ?_)
    | ((with_reducible show DL ..); first | refine DL.any ?_ | refine DL.any (h := POp.k Tryz.func119 (hc := isFeat_i x.feature (by assumption))) ?_ | refine DL.U ?_ | refine DL.F ?_ | refine DL.T ?_ | refine DL.T (h := POp.k Tryz.func145 (hc := inr_v _ _ _)) ?_ | refine DL.W ?_ | refine DL.W (h := fun h => by (try rw [h]); exact POp.k Tryz.func145 (hc := inr_v _ _ _)) ?_ | refine DL.nil ?_)
    | (refine iAW ?_; first | (refine AW.c0 ?_; constructor) | refine AW.dr (id := 6) 30 ?_ | refine AW.cT ?_ | refine AW.cF ?_ | (refine AW.c2 ?_ ?_ <;> (intro h; try simp only [bT, bF] at h)))
    | (refine AW.loopD hE (fun i : Nat => [.ro 8 (l.map TEntry.en), .any, .any, .any, .any, .any, .any, .any, .ro 8 (l.map TEntry.en), I ((l.map TEntry.en).length : Int), I (i : Int), .any, .any, .any, .any, .any, .any, .any, .any, .any, .any, .any, .any, .any, .any, .any, .any, .any, .any, .any, .any, .any, .any, .any, .any, .any, .any, .any, .any, .any, .any, .any, .any, .any, .any, .any, .any, .any, .any]) (fun i => []) (fun i => l.length - i) (fun i => i ≤ l.length ∧ chOk entOk entLt entD l i = true) 0 (by simp [chOk]) ?_ (by first | rfl | (simp [fil_zero]; done)) ?_
       (focus (exact wkI))
       intro i hi
       by_cases hlt : i < l.length
       case' pos =>
         have hP := True.intro
         obtain ⟨x, hx⟩ : ∃ x, l[i]? = some x := ⟨_, List.getElem?_eq_getElem hlt⟩
         have hg := map_get (f := TEntry.en) hx
         have ht := lt_true (f := TEntry.en) hlt
         have hn := next_ix hlt (by omega)
         have hgx := hp x (List.mem_of_getElem? hx)
         have hsu := chOk_succ entOk entLt entD l i
         have hclP : Clo (.ro 2 (x.feature.points.map TPoint.en)) := clo_list TPoint.clo_en
         have hcle : Clo (.agg x.en) := Clo.agg x.clo_en
         have hclf : Clo (.agg x.feature.en) := Clo.agg x.feature.clo_en
         rcases ch_cases entOk entLt entD TEntry.en hx hl with ⟨hI, hk⟩ | ⟨hI, hz, hk⟩ | ⟨hI, hz, h0, hp0, hk⟩
         rotate_left 1
         all_goals first | obtain ⟨q1, q2, q3⟩ := entOk_t hI | rcases entOk_f hI with q1 | ⟨q1, q2⟩ | ⟨q1, q2, q3⟩
       case' neg =>
         have hQ := True.intro
         have ht := lt_false (f := TEntry.en) hlt
         have e : i = l.length := by omega
         subst e
         try rw [List.take_length])
    | with_reducible refine ifP ?_
    | with_reducible refine ifN ?_) <;> (try dsimp only))
  all_goals first
    | (have _ := hP; (refine ⟨i + 1, _, ⟨hlt, by simp_all <;> omega⟩, by omega, ?_, rfl, ?_, ?_⟩; (focus (exact wkN)); (focus (exact fitsA)); (focus (exact FitsM.nil _))))
    | (have _ := hP; exact Fin.one rfl (RV.tmp (by rfl)) (clo_c _) ⟨by have hn := chOk_not (ok := entOk) (lt := entLt) (d := entD) (n := l.length) (by simp_all <;> omega : chAt entOk entLt entD l i = false) hlt; simp_all [isLog], rfl⟩)
    | (have _ := hQ; exact Fin.one rfl (RV.tmp (by rfl)) (clo_c _) ⟨by first | (simp_all [isLog]; done) | (simp_all [isLog] <;> omega), rfl⟩)
    | (exact Fin.one rfl (RV.tmp (by rfl)) (clo_c _) ⟨by simp_all [isLog] <;> omega, rfl⟩)

def srcTo (l : List TEntry) (i : Nat) : List TFeature := ((l.take i).filter fun e => !e.gone).map TEntry.feature
def srcOf (l : List TEntry) : List TFeature := if isLog l = true then srcTo l l.length else []
theorem srcOf_t {l : List TEntry} (h : isLog l = true) : srcOf l = srcTo l l.length := if_pos h
theorem srcOf_f {l : List TEntry} (h : isLog l = false) : srcOf l = [] := if_neg (by rw [h]; decide)
theorem srcOf_cases {l : List TEntry} {i : Nat} {x : TEntry} (h : l[i]? = some x) : (x.gone = true ∧ srcTo l (i + 1) = srcTo l i) ∨ (x.gone = false ∧ srcTo l (i + 1) = srcTo l i ++ [x.feature]) := by
  unfold srcTo
  rw [take_succ_of h, List.filter_append, List.map_append]
  cases hgo : x.gone <;> simp [hgo]
theorem srcTo_len (l : List TEntry) (i : Nat) : (srcTo l i).length ≤ i := by
  unfold srcTo
  rw [List.length_map]
  exact Nat.le_trans (List.length_filter_le _ _) (by rw [List.length_take]; omega)
theorem srcTo_mem {l : List TEntry} {i : Nat} {p : TFeature → Prop} (hp : ∀ e ∈ l, p e.feature) : ∀ y ∈ srcTo l i, p y := fun y hy => by
  unfold srcTo at hy
  obtain ⟨e, he, rfl⟩ := List.mem_map.1 hy
  exact hp e (List.mem_of_mem_take (List.mem_filter.1 he).1)
theorem srcOf_len {l : List TEntry} (hl : l.length ≤ 1048576) : (srcOf l).length ≤ 1048576 := by
  unfold srcOf
  split
  · exact Nat.le_trans (srcTo_len l _) hl
  · exact Nat.zero_le _
theorem srcOf_mem {l : List TEntry} {p : TFeature → Prop} (hp : ∀ e ∈ l, p e.feature) : ∀ y ∈ srcOf l, p y := by
  unfold srcOf
  split
  · exact srcTo_mem hp
  · intro y hy; simp at hy
def nLog (l : List TEntry) : Nat := if isLog l = true then l.length else 0
theorem nLog_t {l : List TEntry} {i : Nat} (h : i < nLog l) : isLog l = true ∧ i < l.length := by
  unfold nLog at h
  split at h
  · exact ⟨by assumption, h⟩
  · omega
theorem srcOf_n (l : List TEntry) : srcTo l (nLog l) = srcOf l := by
  unfold nLog srcOf
  split
  · rfl
  · simp [srcTo]

theorem src_i (l : List TEntry) (hl : l.length ≤ 1048576) (hp : ∀ e ∈ l, e.feature.gd) : VCalls Tryz.prog 60 [.ro 8 (l.map TEntry.en)] (fun r M => r = .own 0 0 ∧ M = [some ⟨81, 5, 0, false, (srcOf l).map TFeature.ed⟩]) := by
  refine VB Tryz.func60 27 (fun E hE => ?_)
  have hclo : Clo (.ro 8 (l.map TEntry.en)) := clo_list TEntry.clo_en
  repeat' ((first
    | (refine iAL ?_; first | refine AL.any (h := POp.gh POp.mk (Gh.absorbA (q := 0) (id := 2) (j := 4) rfl rfl rfl rfl rfl rfl (DCl.map (fun _ => rfl)) TPoint.und)) ?_ | refine AL.any ?_ | refine AL.any (h := POp.k Tryz.func117 (hc := isLog_i _ (by assumption) (by assumption))) ?_ | refine AL.any (h := POp.O Tryz.func118 (hc := cloneF x.feature (by assumption))) ?_ | refine AL.nil ?_)
    | (refine iAW ?_; first | (refine AW.c0 ?_; constructor) | refine AW.cT ?_ | refine AW.cF ?_ | (refine AW.c2 ?_ ?_ <;> (intro h; try simp only [bT, bF] at h)))
    | (refine AW.loopD hE (fun i : Nat => [.any, .any, .any, .own 0 (srcTo l i).length, .any, .any, .any, .any, .any, .any, .any, .ro 8 (l.map TEntry.en), I ((l.map TEntry.en).length : Int), I (i : Int), .any, .any, .any, .any, .any, .any, .any, .any, .any, .any, .any, .any, .any, .any]) (fun i => [some ⟨81, 5, (srcTo l i).length, false, (srcTo l i).map TFeature.ed⟩]) (fun i => l.length - i) (fun i => i ≤ l.length) 0 (by simp) ?_ (by first | rfl | (simp [fil_zero]; done)) ?_
       (focus ((repeat' (first | exact Wk.nil | refine Wk.any ?_ | (with_reducible refine Wk.same ?_) | refine Wk.of ?_ ?_)) <;> first | rfl | (rfl)))
       intro i hi
       by_cases hlt : i < l.length
       case' pos =>
         have hP := True.intro
         obtain ⟨x, hx⟩ : ∃ x, l[i]? = some x := ⟨_, List.getElem?_eq_getElem hlt⟩
         have hg := map_get (f := TEntry.en) hx
         have ht := lt_true (f := TEntry.en) hlt
         have hn := next_ix hlt (by omega)
         have hgx := hp x (List.mem_of_getElem? hx)
         have hgs := hgx.1
         have hln := srcTo_len l i
         have hclP : Clo (.ro 2 (x.feature.points.map TPoint.en)) := clo_list TPoint.clo_en
         have hclF : Clo (.agg x.feature.en) := Clo.agg x.feature.clo_en
         have hcle : Clo (.agg x.en) := Clo.agg x.clo_en
         rcases srcOf_cases hx with ⟨hgo, hsr⟩ | ⟨hgo, hsr⟩
         rotate_left 1
         have hm : (srcTo l (i + 1)).map TFeature.ed = (srcTo l i).map TFeature.ed ++ [x.feature.ed] := by rw [hsr, List.map_append]; rfl
         have hlen : (srcTo l (i + 1)).length = (srcTo l i).length + 1 := by rw [hsr, List.length_append]; rfl
         rotate_left 1
       case' neg =>
         have hQ := True.intro
         have ht := lt_false (f := TEntry.en) hlt
         have e : i = l.length := by omega
         subst e
         try rw [List.take_length])
    | with_reducible refine ifP ?_
    | with_reducible refine ifN ?_) <;> (try dsimp only))
  all_goals first
    | (have _ := hP; (refine ⟨i + 1, _, hlt, by omega, ?_, by first | (rw [hm, hlen] <;> rfl) | (rw [hsr] <;> rfl), ?_, ?_⟩; (focus ((repeat' (first | exact Wk.nil | refine Wk.any ?_ | (with_reducible refine Wk.same ?_) | refine Wk.of ?_ ?_)) <;> (first | rfl | (rw [hlen]; done) | (rw [hsr]; done) | simp_all))); (focus (exact fitsA)); (focus (exact fits_dcl (DCl.map (fun _ => rfl))))))
    | (have _ := hQ; (rw [srcOf_t (by assumption)]); exact Fin.r1 [0] rfl (RV.tmp (by rfl)) ⟨rfl, rfl⟩)
    | (rw [srcOf_f (by assumption)]); exact Fin.r1 [0] rfl (RV.tmp (by rfl)) ⟨rfl, rfl⟩

theorem src_s (l : List TEntry) (hl : l.length ≤ 1048576) (hp : ∀ e ∈ l, e.feature.gd) : VCalls Tryz.prog 52 [.ro 8 (l.map TEntry.en)] (fun r M => r = .own 0 0 ∧ M = [some ⟨81, 5, 0, false, (srcOf l).map TFeature.ed⟩]) := by
  refine VB Tryz.func52 31 (fun E hE => ?_)
  have hclo : Clo (.ro 8 (l.map TEntry.en)) := clo_list TEntry.clo_en
  repeat' ((first
    | (refine iAL ?_; first | refine AL.any (h := POp.gh POp.mk (Gh.absorbA (q := 0) (id := 1) (j := 4) rfl rfl rfl rfl rfl rfl (DCl.map (fun _ => rfl)) TPoint.und)) ?_ | refine AL.any ?_ | refine AL.any (h := POp.O Tryz.func108 (hc := cloneF_s x.feature (by assumption))) ?_ | refine AL.U ?_ | refine AL.F ?_ | refine AL.T ?_ | refine AL.T (h := POp.k Tryz.func107 (hc := isLog_s _ (by assumption) (by assumption))) ?_ | refine AL.W ?_ | refine AL.W (h := fun h => by (try rw [h]); exact POp.k Tryz.func107 (hc := isLog_s _ (by assumption) (by assumption))) ?_ | refine AL.nil ?_)
    | (refine iAW ?_; first | (refine AW.c0 ?_; constructor) | refine AW.cT ?_ | refine AW.cF ?_ | (refine AW.c2 ?_ ?_ <;> (intro h; try simp only [bT, bF] at h)))
    | (refine AW.loopD hE (fun i : Nat => [.ro 8 (l.map TEntry.en), .any, .any, .own 0 (srcTo l i).length, I (i : Int), .any, .any, .any, .any, .any, .any, .any, .any, .any, .any, .any, .any, .any, .any, .any, .any, .any, .any, .any, .any, .any, .any, .any, .any, .any, .any, .any]) (fun i => [some ⟨81, 5, (srcTo l i).length, false, (srcTo l i).map TFeature.ed⟩]) (fun i => nLog l - i) (fun i => i ≤ nLog l) 0 (by simp) ?_ (by first | rfl | (simp [fil_zero]; done)) ?_
       (focus ((repeat' (first | exact Wk.nil | refine Wk.any ?_ | (with_reducible refine Wk.same ?_) | refine Wk.of ?_ ?_)) <;> first | rfl | (rfl)))
       intro i hi
       by_cases hlt : i < nLog l
       case' pos =>
         have hP := True.intro
         obtain ⟨hIL, hN⟩ := nLog_t hlt
         obtain ⟨x, hx⟩ : ∃ x, l[i]? = some x := ⟨_, List.getElem?_eq_getElem hN⟩
         have hg := map_get (f := TEntry.en) hx
         have ht : (decide ((i : Int) < ((l.map TEntry.en).length : Int)) && isLog l) = true := by rw [hIL]; simp; omega
         have hn := next_ix hN (by omega)
         have hgx := hp x (List.mem_of_getElem? hx)
         have hgs := hgx.1
         have hln := srcTo_len l i
         have hclP : Clo (.ro 2 (x.feature.points.map TPoint.en)) := clo_list TPoint.clo_en
         have hclF : Clo (.agg x.feature.en) := Clo.agg x.feature.clo_en
         have hcle : Clo (.agg x.en) := Clo.agg x.clo_en
         rcases srcOf_cases hx with ⟨hgo, hsr⟩ | ⟨hgo, hsr⟩
         rotate_left 1
         have hm : (srcTo l (i + 1)).map TFeature.ed = (srcTo l i).map TFeature.ed ++ [x.feature.ed] := by rw [hsr, List.map_append]; rfl
         have hlen : (srcTo l (i + 1)).length = (srcTo l i).length + 1 := by rw [hsr, List.length_append]; rfl
         rotate_left 1
       case' neg =>
         have hQ := True.intro
         have e : i = nLog l := by omega
         have ht : (decide ((i : Int) < ((l.map TEntry.en).length : Int)) && isLog l) = false := by
           rw [e]
           unfold nLog
           split
           · simp
           · simp_all
         subst e)
    | with_reducible refine ifP ?_
    | with_reducible refine ifN ?_) <;> (try dsimp only))
  all_goals first
    | (have _ := hP; (refine ⟨i + 1, _, hlt, by omega, ?_, by first | (rw [hm, hlen] <;> rfl) | (rw [hsr] <;> rfl), ?_, ?_⟩; (focus ((repeat' (first | exact Wk.nil | refine Wk.any ?_ | (with_reducible refine Wk.same ?_) | refine Wk.of ?_ ?_)) <;> (first | rfl | (rw [hlen]; done) | (rw [hsr]; done) | simp_all))); (focus (exact fitsA)); (focus (exact fits_dcl (DCl.map (fun _ => rfl))))))
    | (have _ := hQ; (simp only [srcOf_n]); exact Fin.r1 [0] rfl (RV.tmp (by rfl)) ⟨rfl, rfl⟩)

theorem src_i' (l : List TEntry) (hl : l.length ≤ 1048576) (hp : ∀ e ∈ l, e.feature.gd) : VCalls Tryz.prog 60 [.ro 8 (l.map TEntry.en)] (fun r M => r = .ro 5 ((srcOf l).map TFeature.en) ∧ M = []) := VCalls.frz (src_i l hl hp) (by repeat' (first | exact VwL.nil | refine VwL.cons ?_ ?_ | (refine View.own (by rfl) (by rfl) (by rfl) (by rfl) ?_ ?_ <;> first | exact DCl.b rfl | exact DCl.map (fun _ => rfl) | assumption | rfl | exact TPoint.und | exact TSegment.und | exact TBox.und | exact TFeature.und | exact TMeet.und | exact TPlace.und | exact TCover.und | exact TLabel.und | exact TPiece.und | exact TLevel.und | exact TChart.und | exact TReason.und | exact TEdit.und | exact TEntry.und | exact TEdition.und | exact TListing.und | exact TAtlas.und | exact TEvent.und | exact TWindow.und | exact und_nil | exact und_I | assumption) | refine View.agg' ?_ | exact View.same (by first | exact clo_of (by rfl) | assumption | exact clo_fn _) | exact View.nil))
theorem src_s' (l : List TEntry) (hl : l.length ≤ 1048576) (hp : ∀ e ∈ l, e.feature.gd) : VCalls Tryz.prog 52 [.ro 8 (l.map TEntry.en)] (fun r M => r = .ro 5 ((srcOf l).map TFeature.en) ∧ M = []) := VCalls.frz (src_s l hl hp) (by repeat' (first | exact VwL.nil | refine VwL.cons ?_ ?_ | (refine View.own (by rfl) (by rfl) (by rfl) (by rfl) ?_ ?_ <;> first | exact DCl.b rfl | exact DCl.map (fun _ => rfl) | assumption | rfl | exact TPoint.und | exact TSegment.und | exact TBox.und | exact TFeature.und | exact TMeet.und | exact TPlace.und | exact TCover.und | exact TLabel.und | exact TPiece.und | exact TLevel.und | exact TChart.und | exact TReason.und | exact TEdit.und | exact TEntry.und | exact TEdition.und | exact TListing.und | exact TAtlas.und | exact TEvent.und | exact TWindow.und | exact und_nil | exact und_I | assumption) | refine View.agg' ?_ | exact View.same (by first | exact clo_of (by rfl) | assumption | exact clo_fn _) | exact View.nil))
def eqAt {α : Type} (f : α → α → Bool) (a b : List α) (i : Nat) : Bool := match a[i]?, b[i]? with
  | some x, some y => f x y
  | _, _ => true
def eqTo {α : Type} (f : α → α → Bool) (a b : List α) (n : Nat) : Bool := (List.range n).all (eqAt f a b)
def eqL {α : Type} (f : α → α → Bool) (a b : List α) : Bool := (((a.length : Nat) : Int) == ((b.length : Nat) : Int)) && eqTo f a b a.length
theorem eqTo_succ {α : Type} (f : α → α → Bool) (a b : List α) (i : Nat) : eqTo f a b (i + 1) = (eqTo f a b i && eqAt f a b i) := by simp [eqTo, List.range_succ]
theorem eqTo_zero {α : Type} (f : α → α → Bool) (a b : List α) : eqTo f a b 0 = true := rfl
theorem eqTo_not {α : Type} {f : α → α → Bool} {a b : List α} {i n : Nat} (h : eqAt f a b i = false) (hi : i < n) : eqTo f a b n = false := by
  simp only [eqTo, List.all_eq_false, List.mem_range]
  exact ⟨i, hi, by simp [h]⟩
theorem eqAt_some {α : Type} {f : α → α → Bool} {a b : List α} {i : Nat} {x y : α} (hx : a[i]? = some x) (hy : b[i]? = some y) : eqAt f a b i = f x y := by simp [eqAt, hx, hy]
theorem len_of {α β : Type} {en : α → β} {a b : List α} (h : (((a.map en).length : Int) != ((b.map en).length : Int)) = false) : a.length = b.length := by simp at h; omega
theorem eqL_len {α β : Type} {en : α → β} {f : α → α → Bool} {a b : List α} (h : (((a.map en).length : Int) != ((b.map en).length : Int)) = true) : eqL f a b = false := by
  simp at h
  simp [eqL, h]
theorem eqL_not {α : Type} {f : α → α → Bool} {a b : List α} {i : Nat} (h : eqAt f a b i = false) (hi : i < a.length) : eqL f a b = false := by simp [eqL, eqTo_not h hi]
theorem eqL_yes {α : Type} {f : α → α → Bool} {a b : List α} (hl : a.length = b.length) (h : eqTo f a b a.length = true) : eqL f a b = true := by rw [eqL, h, hl]; simp

theorem eqPcs_i (a b : List TPiece) (hl : a.length ≤ 1048576) (hm : b.length ≤ 1048576) : VCalls Tryz.prog 63 [.ro 2 (a.map TPiece.en), .ro 2 (b.map TPiece.en)] (fun r M => r = B (eqL pcE a b) ∧ M = []) := by
  refine VB Tryz.func63 24 (fun E hE => ?_)
  have hcla : Clo (.ro 2 (a.map TPiece.en)) := clo_list TPiece.clo_en
  have hclb : Clo (.ro 2 (b.map TPiece.en)) := clo_list TPiece.clo_en
  repeat' ((first
    | (refine iAL ?_; first | refine AL.any ?_ | refine AL.nil ?_)
    | ((with_reducible show DL ..); first | refine DL.any ?_ | refine DL.nil ?_)
    | (refine iAW ?_; first | (refine AW.c0 ?_; constructor) | refine AW.dr (id := 6) 8 ?_ | refine AW.cT ?_ | refine AW.cF ?_ | (refine AW.c2 ?_ ?_ <;> (intro h; try simp only [bT, bF] at h)))
    | (refine AW.loopD hE (fun i : Nat => [.ro 2 (a.map TPiece.en), .ro 2 (b.map TPiece.en), .any, .any, .any, .any, .any, .any, .any, .any, .any, .ro 2 (a.map TPiece.en), I (a.map TPiece.en).length, I i, .any, .any, .any, .any, .any, .any, .any, .any, .any, .any, .any, .any]) (fun i => []) (fun i => a.length - i) (fun i => i ≤ a.length ∧ eqTo pcE a b i = true) 0 (by simp [eqTo_zero]) ?_ (by first | rfl | (simp [fil_zero]; done)) ?_
       (focus (exact wkI))
       intro i hi
       have hlen : a.length = b.length := len_of (by assumption)
       by_cases hlt : i < a.length
       case' pos =>
         have hP := True.intro
         obtain ⟨x, hx⟩ : ∃ x, a[i]? = some x := ⟨_, List.getElem?_eq_getElem hlt⟩
         have hg := map_get (f := TPiece.en) hx
         have ht := lt_true (f := TPiece.en) hlt
         have hn := next_ix hlt (by omega)
         obtain ⟨y, hy⟩ : ∃ y, b[i]? = some y := ⟨_, List.getElem?_eq_getElem (by omega)⟩
         have hgb := map_get (f := TPiece.en) hy
         have hes := eqTo_succ pcE a b i
         have hea := eqAt_some (f := pcE) hx hy
       case' neg =>
         have hQ := True.intro
         have ht := lt_false (f := TPiece.en) hlt
         have e : i = a.length := by omega
         subst e
         try rw [List.take_length])
    | with_reducible refine ifP ?_
    | with_reducible refine ifN ?_) <;> (try dsimp only))
  all_goals first
    | (have _ := hP; (refine ⟨i + 1, _, ⟨hlt, by rw [hes, hi.2, hea]; simp_all⟩, by omega, ?_, rfl, ?_, ?_⟩; (focus ((repeat' (first | exact Wk.nil | refine Wk.any ?_ | (with_reducible refine Wk.same ?_) | refine Wk.of ?_ ?_)) <;> (first | (rw [hn]; done) | simp_all))); (focus (exact fitsA)); (focus (exact FitsM.nil _))))
    | (have _ := hP; exact Fin.one rfl (RV.tmp (by rfl)) (clo_c _) ⟨by rw [eqL_not (f := pcE) (by rw [hea]; simp_all) hlt], rfl⟩)
    | (have _ := hQ; exact Fin.one rfl (RV.tmp (by rfl)) (clo_c _) ⟨by rw [eqL_yes hlen hi.2], rfl⟩)
    | (exact Fin.one rfl (RV.tmp (by rfl)) (clo_c _) ⟨by rw [eqL_len (by assumption)], rfl⟩)

def areJ (a : TAtlas) : Bool := eqL pcE (joinT (srcOf a.log) (tilesOf (srcOf a.log))) (allPc (srcOf a.log))
theorem putIs_take {A B : List Int} {k : Nat} {y : Int} (h : B[k]? = some y) : putIs [] (A ++ B.take (k + 1)) = putI (putIs [] (A ++ B.take k)) y := by
  rw [take_succ_of h, ← List.append_assoc, putIs_app]
  rfl
theorem putIs_few2 (l : List TFeature) (i : Nat) (f : TFeature) (k : Nat) : (putIs [] (tilesTo l i ++ (tch f).take k)).length ≤ 1048576 := by
  have := putIs_few (tilesTo l i ++ (tch f).take k) fun x hx => by
    rcases List.mem_append.1 hx with h | h
    · exact tilesTo_mem h
    · exact tch_mem (List.mem_of_mem_take h)
  omega
theorem areJ_i (a : TAtlas) (hgd : a.gd) : VCalls Tryz.prog 15 [.agg a.en] (fun r M => r = B (areJ a) ∧ M = []) := by
  refine VB Tryz.func15 30 (fun E hE => ?_)
  have hclo : Clo (.ro 5 ((srcOf a.log).map TFeature.en)) := clo_list TFeature.clo_en
  have hclG : Clo (.ro 8 (a.log.map TEntry.en)) := clo_list TEntry.clo_en
  have hcla : Clo (.agg a.en) := Clo.agg a.clo_en
  have hLl := srcOf_len hgd.1.1
  have hLg : ∀ x ∈ (srcOf a.log), x.gd := srcOf_mem hgd.1.2
  have hclP : Clo (.ro 2 ((allPc (srcOf a.log)).map TPiece.en)) := clo_list TPiece.clo_en
  have hpl := allPc_len (srcOf a.log)
  dsimp only [TAtlas.en]
  repeat' ((first
    | (refine iAL ?_; first | refine AL.any ?_ | refine AL.any (h := POp.k Tryz.func60 (hc := src_i' a.log hgd.1.1 hgd.1.2)) ?_ | refine AL.any (h := POp.k Tryz.func61 (hc := tch_i x (hLg x (List.mem_of_getElem? hx)))) ?_ | refine AL.any (h := POp.H [1] Tryz.func62 (hc := sortI (tilesTo (srcOf a.log) (srcOf a.log).length) (by have := tilesTo_len (srcOf a.log) (srcOf a.log).length (Nat.le_refl _); omega))) ?_ | refine AL.any (h := POp.D Tryz.func63 (hc := eqPcs_i (joinT (srcOf a.log) (Lib.compact ((tilesTo (srcOf a.log) (srcOf a.log).length).mergeSort fun x y => decide (x ≤ y)))) (allPc (srcOf a.log)) (joinT_len _ _ hT1) (by omega))) ?_ | refine AL.any (h := POp.O Tryz.func64 (hc := join_i (srcOf a.log) hLl hLg (Lib.compact ((tilesTo (srcOf a.log) (srcOf a.log).length).mergeSort fun x y => decide (x ≤ y))) hT1 hT2)) ?_ | refine AL.any (h := POp.G [1] Tryz.func65 (hc := compI ((tilesTo (srcOf a.log) (srcOf a.log).length).mergeSort fun x y => decide (x ≤ y)) (by rw [List.length_mergeSort]; have := tilesTo_len (srcOf a.log) (srcOf a.log).length (Nat.le_refl _); omega))) ?_ | refine AL.any (h := POp.k Tryz.func66 (hc := all_i (srcOf a.log) hLl hLg)) ?_ | refine AL.nil ?_)
    | (refine iAW ?_; first | (refine AW.c0 ?_; constructor) | refine AW.cT ?_ | refine AW.cF ?_ | (refine AW.c2 ?_ ?_ <;> (intro h; try simp only [bT, bF] at h)))
    | (refine AW.loopD hE (fun i : Nat => [.any, .ref 0 0 7 0 0, .any, .ro 5 ((srcOf a.log).map TFeature.en), .own 1 i, .any, .any, .any, .any, .any, .any, .ro 5 ((srcOf a.log).map TFeature.en), I (((srcOf a.log).map TFeature.en).length : Int), I (i : Int), .any, .any, .any, .any, .any, .any, .any, .any, .any, .any, .any, .any, .any, .any, .any, .any, .any]) (fun i => [some ⟨36, 7, 0, true, [a.en]⟩, some ⟨3, 1, i, false, (tilesTo (srcOf a.log) i).map enI⟩]) (fun i => (srcOf a.log).length - i) (fun i => i ≤ (srcOf a.log).length) 0 (by simp) ?_ (by first | rfl | (simp [fil_zero]; done)) ?_
       (focus ((repeat' (first | exact Wk.nil | refine Wk.any ?_ | (with_reducible refine Wk.same ?_) | refine Wk.of ?_ ?_)) <;> first | rfl | (simp_all)))
       intro i hi
       by_cases hlt : i < (srcOf a.log).length
       case' pos =>
         have hP := True.intro
         obtain ⟨x, hx⟩ : ∃ x, (srcOf a.log)[i]? = some x := ⟨_, List.getElem?_eq_getElem hlt⟩
         have hg := map_get (f := TFeature.en) hx
         have ht := lt_true (f := TFeature.en) hlt
         have hn := next_ix hlt (by omega)
         have hts := tilesTo_succ hx
         have hm : (tilesTo (srcOf a.log) (i + 1)).map enI = (tilesTo (srcOf a.log) i).map enI ++ (tch x).map enI := by rw [hts, List.map_append]
         have hln := tilesTo_len (srcOf a.log) i (by omega)
         have htl := tch_len x
         have hgx := hLg x (List.mem_of_getElem? hx)
         have hclT : Clo (.ro 1 ((tch x).map enI)) := clo_list clo_enI
         have hclX : Clo (.ro 2 (x.points.map TPoint.en)) := clo_list TPoint.clo_en
         have hcle : Clo (.agg x.en) := Clo.agg x.clo_en
       case' neg =>
         have hQ := True.intro
         have ht := lt_false (f := TFeature.en) hlt
         have e : i = (srcOf a.log).length := by omega
         subst e
         try rw [List.take_length]
         have hT1 : (Lib.compact ((tilesTo (srcOf a.log) (srcOf a.log).length).mergeSort fun x y => decide (x ≤ y))).length ≤ 441 := by rw [← putIs_sorted]; exact tilesOf_len _
         have hT2 : ∀ t ∈ (Lib.compact ((tilesTo (srcOf a.log) (srcOf a.log).length).mergeSort fun x y => decide (x ≤ y))), inr t 0 440 = true := fun t ht => tilesOf_mem (l := (srcOf a.log)) (by rw [← putIs_sorted] at ht; exact ht)
         have hclJ : Clo (.ro 2 ((joinT (srcOf a.log) (Lib.compact ((tilesTo (srcOf a.log) (srcOf a.log).length).mergeSort fun x y => decide (x ≤ y)))).map TPiece.en)) := clo_list TPiece.clo_en
         have hclT : Clo (.ro 1 ((Lib.compact ((tilesTo (srcOf a.log) (srcOf a.log).length).mergeSort fun x y => decide (x ≤ y))).map enI)) := clo_list clo_enI)
    | with_reducible refine ifP ?_
    | with_reducible refine ifN ?_) <;> (try dsimp only))
  all_goals first
    | (have _ := hP; (refine ⟨i + 1, _, hlt, by omega, ?_, by rw [hm] <;> rfl, ?_, ?_⟩; (focus (exact wkN)); (focus (exact fitsA)); (focus (exact fitsM_cons (clo_one a.clo_en) (fitsM_cons (clo_rows clo_enI) (FitsM.nil _))))))
    | (have _ := hQ; exact Fin.one rfl (RV.tmp (by rfl)) (clo_c _) ⟨by unfold areJ tilesOf; rw [putIs_sorted], rfl⟩)

theorem areJ_s (a : TAtlas) (hgd : a.gd) : VCalls Tryz.prog 13 [.agg a.en] (fun r M => r = B (areJ a) ∧ M = []) := by
  refine VB Tryz.func13 62 (fun E hE => ?_)
  have hclo : Clo (.ro 5 ((srcOf a.log).map TFeature.en)) := clo_list TFeature.clo_en
  have hclG : Clo (.ro 8 (a.log.map TEntry.en)) := clo_list TEntry.clo_en
  have hcla : Clo (.agg a.en) := Clo.agg a.clo_en
  have hLl := srcOf_len hgd.1.1
  have hLg : ∀ x ∈ (srcOf a.log), x.gd := srcOf_mem hgd.1.2
  have hclP : Clo (.ro 2 ((allPc (srcOf a.log)).map TPiece.en)) := clo_list TPiece.clo_en
  have hpl := allPc_len (srcOf a.log)
  have a1 := True.intro
  dsimp only [TAtlas.en]
  repeat' ((first
    | (refine iAL ?_; first | refine AL.any (h := POp.lit0 (RowRun.empty (by rfl) (by rfl) rwk56) clo_rows_nil) ?_ | refine AL.any ?_ | refine AL.any (h := POp.k Tryz.func52 (hc := src_s' a.log hgd.1.1 hgd.1.2)) ?_ | refine AL.any (h := POp.k Tryz.func53 (hc := tch_s x hgx)) ?_ | refine AL.any (h := POp.k Tryz.func54 (hc := put14_s' (putIs [] (tilesTo (srcOf a.log) i ++ (tch x).take k)) y (putIs_few2 _ _ _ _))) ?_ | refine AL.any (h := POp.k Tryz.func55 (hc := join_s (srcOf a.log) hLl hLg (putIs [] (tilesTo (srcOf a.log) (srcOf a.log).length)) hT1 hT2)) ?_ | refine AL.any (h := POp.k Tryz.func56 (hc := all_s (srcOf a.log) hLl hLg)) ?_ | refine AL.nil ?_)
    | ((with_reducible show DL ..); first | refine DL.any ?_ | refine DL.nil ?_)
    | (refine iAW ?_; first | (refine AW.c0 ?_; constructor) | refine AW.dr (id := 18) 8 ?_ | refine AW.cT ?_ | refine AW.cF ?_ | (refine AW.c2 ?_ ?_ <;> (intro h; try simp only [bT, bF] at h)))
    | (have _ := a1
       clear a1
       refine AW.loopD hE (fun s_ : Nat => [.any, .ref 0 0 7 0 0, .any, .ro 5 ((srcOf a.log).map TFeature.en), .ro 1 ((putIs [] (tilesTo (srcOf a.log) s_)).map enI), I (s_ : Int), .any, .any, .any, .any, .any, .any, .any, .any, .any, .any, .any, .any, .any, .any, .any, .any, .any, .any, .any, .any, .any, .any, .any, .any, .any, .any, .any, .any, .any, .any, .any, .any, .any, .any, .any, .any, .any, .any, .any, .any, .any, .any, .any, .any, .any, .any, .any, .any, .any, .any, .any, .any, .any, .any, .any, .any, .any]) (fun s_ => [some ⟨36, 7, 0, true, [a.en]⟩]) (fun s_ => (srcOf a.log).length - s_) (fun s_ => s_ ≤ (srcOf a.log).length) 0 (Nat.zero_le _) ?_ (by first | rfl | (rfl)) ?_
       (focus ((repeat' (first | exact Wk.nil | refine Wk.any ?_ | (with_reducible refine Wk.same ?_) | refine Wk.of ?_ ?_)) <;> first | rfl | (simp [tilesTo, putIs])))
       rintro i hJ
       try dsimp only at hJ
       try dsimp only
       by_cases hlt : i < (srcOf a.log).length
       case' pos =>
         have a2 := True.intro
         obtain ⟨x, hx⟩ := getD_some (l := (srcOf a.log)) (i := i) hlt
         have hg := map_get (f := TFeature.en) hx
         have ht := lt_true (f := TFeature.en) hlt
         have hn := next_ix hlt (by omega)
         have hgx := hLg x (List.mem_of_getElem? hx)
         have hts := tilesTo_succ hx
         have htl := tch_len x
         have hclX : Clo (.ro 2 (x.points.map TPoint.en)) := clo_list TPoint.clo_en
         have hcle : Clo (.agg x.en) := Clo.agg x.clo_en
         have hclT : Clo (.ro 1 ((tch x).map enI)) := clo_list clo_enI
         have hclD : Clo (.ro 1 ((putIs [] (tilesTo (srcOf a.log) (i + 1))).map enI)) := clo_list clo_enI
       case' neg =>
         have a3 := True.intro
         have ht := lt_false (f := TFeature.en) hlt
         have ei : i = (srcOf a.log).length := by omega
         rw [ei]
         clear ei
         have hT1 : (putIs [] (tilesTo (srcOf a.log) (srcOf a.log).length)).length ≤ 441 := tilesOf_len _
         have hT2 : ∀ t ∈ (putIs [] (tilesTo (srcOf a.log) (srcOf a.log).length)), inr t 0 440 = true := fun t ht => tilesOf_mem ht
         have hclJ : Clo (.ro 2 ((joinT (srcOf a.log) (putIs [] (tilesTo (srcOf a.log) (srcOf a.log).length))).map TPiece.en)) := clo_list TPiece.clo_en
         have hclT : Clo (.ro 1 (((putIs [] (tilesTo (srcOf a.log) (srcOf a.log).length))).map enI)) := clo_list clo_enI
         have hjl := joinT_len (srcOf a.log) (putIs [] (tilesTo (srcOf a.log) (srcOf a.log).length)) hT1)
    | (have _ := a2
       clear a2
       refine AW.loopD hE (fun s_ : Nat => [.any, .ref 0 0 7 0 0, .any, .ro 5 ((srcOf a.log).map TFeature.en), .ro 1 ((putIs [] (tilesTo (srcOf a.log) i ++ (tch x).take s_)).map enI), I (i : Int), .ro 1 ((tch x).map enI), I (s_ : Int), .any, .any, .any, .any, .any, .any, .any, .any, .any, .any, .any, .any, .any, .any, .any, .any, .any, .any, .any, .any, .any, .any, .any, .any, .any, .any, .any, .any, .any, .any, .any, .any, .any, .any, .any, .any, .any, .any, .any, .any, .any, .any, .any, .any, .any, .any, .any, .any, .any, .any, .any, .any, .any, .any, .any]) (fun s_ => [some ⟨36, 7, 0, true, [a.en]⟩]) (fun s_ => (tch x).length - s_) (fun s_ => s_ ≤ (tch x).length) 0 (Nat.zero_le _) ?_ (by first | rfl | (rfl)) ?_
       (focus ((repeat' (first | exact Wk.nil | refine Wk.any ?_ | (with_reducible refine Wk.same ?_) | refine Wk.of ?_ ?_)) <;> first | rfl | simp))
       rintro k hJ
       try dsimp only at hJ
       try dsimp only
       by_cases hlt : k < (tch x).length
       case' pos =>
         have p2 := True.intro
         obtain ⟨y, hy⟩ := getD_some (l := tch x) (i := k) hlt
         have hgy := map_get (f := enI) hy
         have hty := lt_true (f := enI) hlt
         have hny := next_ix hlt (by omega)
         have hpt := putIs_take (A := tilesTo (srcOf a.log) i) hy
         have hclA : Clo (.ro 1 ((putIs [] (tilesTo (srcOf a.log) i ++ (tch x).take k)).map enI)) := clo_list clo_enI
         have hclB : Clo (.ro 1 ((putI (putIs [] (tilesTo (srcOf a.log) i ++ (tch x).take k)) y).map enI)) := clo_list clo_enI
         have hclC : Clo (.ro 1 ((putIs [] (tilesTo (srcOf a.log) i ++ (tch x).take (k + 1))).map enI)) := clo_list clo_enI
       case' neg =>
         have q2 := True.intro
         have hty := lt_false (f := enI) hlt
         have hfn : putIs [] (tilesTo (srcOf a.log) i ++ (tch x).take k) = putIs [] (tilesTo (srcOf a.log) (i + 1)) := by rw [List.take_of_length_le (by omega), hts])
    | (have _ := a3
       clear a3
       refine AW.loopD hE (fun s_ : Nat => [.any, .ref 0 0 7 0 0, .any, .ro 5 ((srcOf a.log).map TFeature.en), .any, .any, .any, .any, .ro 2 ((joinT (srcOf a.log) (putIs [] (tilesTo (srcOf a.log) (srcOf a.log).length))).map TPiece.en), .ro 2 ((allPc (srcOf a.log)).map TPiece.en), I (s_ : Int), .any, .any, .any, .any, .any, .any, .any, .any, .any, .any, .any, .any, .any, .any, .any, .any, .any, .any, .any, .any, .any, .any, .any, .any, .any, .any, .any, .any, .any, .any, .any, .any, .any, .any, .any, .any, .any, .any, .any, .any, .any, .any, .any, .any, .any, .any, .any, .any, .any, .any, .any, .any]) (fun s_ => [some ⟨36, 7, 0, true, [a.en]⟩]) (fun s_ => (allPc (srcOf a.log)).length - s_) (fun s_ => s_ ≤ (allPc (srcOf a.log)).length ∧ eqTo pcE (joinT (srcOf a.log) (putIs [] (tilesTo (srcOf a.log) (srcOf a.log).length))) (allPc (srcOf a.log)) s_ = true) 0 ⟨Nat.zero_le _, by simp [eqTo_zero]⟩ ?_ (by first | rfl | (rfl)) ?_
       (focus ((repeat' (first | exact Wk.nil | refine Wk.any ?_ | (with_reducible refine Wk.same ?_) | refine Wk.of ?_ ?_)) <;> first | rfl | simp))
       rintro m hJ
       try dsimp only at hJ
       try dsimp only
       by_cases hlt : m < (allPc (srcOf a.log)).length
       case' pos =>
         have p3 := True.intro
         have hlen := len_of (by assumption)
         obtain ⟨x, hx⟩ := getD_some (l := joinT (srcOf a.log) (putIs [] (tilesTo (srcOf a.log) (srcOf a.log).length))) (i := m) (by omega)
         obtain ⟨y, hy⟩ := getD_some (l := allPc (srcOf a.log)) (i := m) hlt
         have hgx := map_get (f := TPiece.en) hx
         have hgy := map_get (f := TPiece.en) hy
         have ht := lt_true (f := TPiece.en) hlt
         have hn := next_ix hlt (by omega)
         have hes := eqTo_succ pcE (joinT (srcOf a.log) (putIs [] (tilesTo (srcOf a.log) (srcOf a.log).length))) (allPc (srcOf a.log)) m
         have hea := eqAt_some (f := pcE) hx hy
       case' neg =>
         have q3 := True.intro
         have hlen := len_of (by assumption)
         have ht := lt_false (f := TPiece.en) hlt)
    | with_reducible refine ifP ?_
    | with_reducible refine ifN ?_) <;> (try dsimp only))
  all_goals first
    | (have _ := p2; refine ⟨k + 1, _, hlt, by omega, ?_, rfl, ?_, ?_⟩; (focus ((repeat' (first | exact Wk.nil | refine Wk.any ?_ | (with_reducible refine Wk.same ?_) | refine Wk.of ?_ ?_)) <;> first | rfl | (rw [hpt]; done) | (rw [hny]; done))); (focus (exact fitsA)); (focus (exact fitsM_cons (clo_one a.clo_en) (FitsM.nil _))))
    | (have _ := q2; refine ⟨i + 1, _, (by assumption), by omega, ?_, rfl, ?_, ?_⟩; (focus ((repeat' (first | exact Wk.nil | refine Wk.any ?_ | (with_reducible refine Wk.same ?_) | refine Wk.of ?_ ?_)) <;> first | rfl | (rw [hfn]; done) | (rw [hn]; done))); (focus (exact fitsA)); (focus (exact fitsM_cons (clo_one a.clo_en) (FitsM.nil _))))
    | (have _ := p3; refine ⟨m + 1, _, ⟨hlt, by rw [hes, hJ.2, hea]; simp_all⟩, by omega, ?_, rfl, ?_, ?_⟩; (focus ((repeat' (first | exact Wk.nil | refine Wk.any ?_ | (with_reducible refine Wk.same ?_) | refine Wk.of ?_ ?_)) <;> first | rfl | (rw [hn]; done))); (focus (exact fitsA)); (focus (exact fitsM_cons (clo_one a.clo_en) (FitsM.nil _))))
    | (have _ := p3; exact Fin.one rfl (RV.tmp (by rfl)) (clo_c _) ⟨by unfold areJ tilesOf; rw [eqL_not (f := pcE) (by rw [hea]; simp_all) (by omega)], rfl⟩)
    | (have _ := q3; exact Fin.one rfl (RV.tmp (by rfl)) (clo_c _) ⟨by unfold areJ tilesOf; rw [eqL_yes hlen (by rw [hlen]; have em := Nat.le_antisymm hJ.1 (Nat.le_of_not_lt hlt); rw [← em]; exact hJ.2)], rfl⟩)
    | (exact Fin.one rfl (RV.tmp (by rfl)) (clo_c _) ⟨by unfold areJ tilesOf; rw [eqL_len (by assumption)], rfl⟩)

theorem law_FnExactAreJoined (a : TAtlas) (h0 : a.ok) : VCalls Tryz.prog 3 [.agg a.en] (fun r M => r = B true ∧ M = []) := by
  refine VB Tryz.func3 26 (fun E hE => ?_)
  have hclo_a : Clo (.agg a.en) := Clo.agg a.clo_en
  rcases Szs.split (TAtlas.szs) a 1048576 h0 (by decide) (by decide) with hz | ⟨hz, hsm0, hz0, hz1⟩
  repeat' ((first
    | (refine iAL ?_; first | refine AL.any ?_ | refine AL.any (h := POp.k Tryz.func12 (hc := szAtlas a _ (by assumption))) ?_ | refine AL.any (h := POp.k Tryz.func13 (hc := areJ_s a (gdA_of (by assumption) (by assumption)))) ?_ | refine AL.any (h := POp.k Tryz.func14 (hc := toAtlas a (by assumption))) ?_ | refine AL.any (h := POp.k Tryz.func15 (hc := areJ_i a (gdA_of (by assumption) (by assumption)))) ?_ | refine AL.any (h := POp.k Tryz.func16 (hc := eqAtlas_self a (by assumption))) ?_ | refine AL.nil ?_)
    | ((with_reducible show DL ..); first | refine DL.any ?_ | refine DL.any (h := POp.k Tryz.func14 (hc := toAtlas a (by assumption))) ?_ | refine DL.nil ?_)
    | (refine iAW ?_; first | (refine AW.c0 ?_; constructor) | refine AW.dr (id := 10) 3 ?_ | refine AW.cT ?_ | refine AW.cF ?_ | (refine AW.c2 ?_ ?_ <;> (intro h; try simp only [bT, bF] at h)))) <;> (try dsimp only))
  all_goals exact Fin.one rfl (RV.tmp (by rfl)) (clo_c _) ⟨by first | rfl | (simp_all; done), rfl⟩

end Go.Proofs.YtpffahmmklpifaaGreat.Abs
