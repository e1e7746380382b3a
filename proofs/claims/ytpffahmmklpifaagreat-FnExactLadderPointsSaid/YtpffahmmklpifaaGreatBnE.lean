/- Part E of the walk over abstract states and of the functions' walks. -/
import Derived.Test.YtpffahmmklpifaaGreatWkStep
import Derived.Test.YtpffahmmklpifaaGreatBnD
import Derived.Test.YtpffahmmklpifaaGreatBnC
import Derived.Lib.AppendZerosOnto
import Derived.WalkKit
import Derived.Lib.Walk
import Derived.Lib.SliceRun
import Derived.Shelf.RegionOpenPlain
/- Charts: plain. -/
namespace Go.Proofs.YtpffahmmklpifaaGreat.Abs
open Go.Proofs Go.RowKit
set_option linter.unusedVariables false
set_option linter.unusedSimpArgs false
set_option maxRecDepth 100000
set_option maxHeartbeats 2000000
attribute [local irreducible] OpA AL AW DL DLM DLR DLS QOp POp VCalls VCallsI
def chIn (l : List TFeature) (v : TLevel) (x : TFeature) : Bool := has (shown l v) x.id
def chsTo (l : List TFeature) (v : TLevel) (i : Nat) : List TFeature := (l.take i).filter (chIn l v)
def chs (l : List TFeature) (v : TLevel) : List TFeature := l.filter (chIn l v)
theorem chsTo_all (l : List TFeature) (v : TLevel) : chsTo l v l.length = chs l v := by rw [chsTo, List.take_length]; rfl
theorem chsTo_y {l : List TFeature} {v : TLevel} {i : Nat} {x : TFeature} (hx : l[i]? = some x) (h : has (shown l v) x.id = true) : (chsTo l v (i + 1)).map TFeature.en = (chsTo l v i).map TFeature.en ++ [x.en] ∧ (chsTo l v (i + 1)).length = (chsTo l v i).length + 1 := by
  unfold chsTo
  rw [filt_y hx h]
  simp
theorem chsTo_n {l : List TFeature} {v : TLevel} {i : Nat} {x : TFeature} (hx : l[i]? = some x) (h : has (shown l v) x.id = false) : (chsTo l v (i + 1)).map TFeature.en = (chsTo l v i).map TFeature.en ∧ (chsTo l v (i + 1)).length = (chsTo l v i).length := by
  unfold chsTo
  rw [filt_n hx h]
  exact ⟨rfl, rfl⟩
theorem chsTo_len (l : List TFeature) (v : TLevel) (i : Nat) : (chsTo l v i).length ≤ i := filt_len l (chIn l v) i
def chF (l : List TFeature) (v : TLevel) : List TFeature := shAll (chs l v) v.least
def chart (l : List TFeature) (v : TLevel) : TChart := ⟨chF l v, plN (chF l v)⟩
def chtOk (l : List TFeature) (v : TLevel) : Bool := isSource l && isLevel v
theorem chs_src {l : List TFeature} (hS : isSource l = true) (v : TLevel) : isSource (chs l v) = true := src_filter hS _
theorem chs_gd {l : List TFeature} (hg : ∀ x ∈ l, x.gd) (v : TLevel) : ∀ x ∈ chs l v, x.gd := fun x hx => hg x (List.mem_filter.1 hx).1
theorem chF_src {l : List TFeature} (hS : isSource l = true) (v : TLevel) : isSource (chF l v) = true := shAll_src _ (chs_src hS v)
theorem chF_gd {l : List TFeature} (hg : ∀ x ∈ l, x.gd) (v : TLevel) : ∀ x ∈ chF l v, x.gd := shAll_gd _ (chs_gd hg v)
theorem chF_len {l : List TFeature} (hS : isSource l = true) (v : TLevel) : (chF l v).length ≤ 16 := src_len (chF_src hS v)
theorem shown_le {l : List TFeature} (hS : isSource l = true) (v : TLevel) : (shown l v).length ≤ 16 := by
  unfold shown
  rw [List.length_map]
  exact Nat.le_trans (List.length_filter_le _ _) (src_len (rkd_src hS v.rank))

end Go.Proofs.YtpffahmmklpifaaGreat.Abs

/- A nil slice grown: what slices.Grow gives. -/
namespace Go.Proofs.YtpffahmmklpifaaGreat.Abs
open Go.Proofs Go.RowKit
set_option linter.unusedVariables false
set_option linter.unusedSimpArgs false
set_option maxRecDepth 100000
set_option maxHeartbeats 2000000
open Go.Shelf Go.Lib
set_option maxHeartbeats 4000000 in
set_option maxRecDepth 100000 in
theorem growP (m : Nat) (h0 : 0 < m) (hm : m ≤ 1048576) (w : World) : Calls Tryz.prog 340 #[.slice none 0 0, .int .i64 (m : Int)] w fun e w' => ∃ G cur, e = .returned (.slice (some ⟨w.heap.size, 0, none⟩) 0 G) ∧ w' = w.drew.alloc (.cells cur 141) ∧ cur.size = G * 2 ∧ G ≤ maxLen := by
  have mixed : Tryz.prog.follows .mixedOrders = true := by kernel_rfl
  obtain ⟨i0, z, hsl, hi0, hz0, hsz, hby, hzc, _, _, hs0⟩ := rwk_inv rwk79
  have u3 : Tryz.prog.underlying 3 = some (.int .i64) := Tryz.underlying3
  have h1 : ¬ ((m : Int) < 0) := by omega
  have h2 : wrap64 ((0 : Int) - (0 : Int)) = 0 := by unfold wrap64; omega
  have h3 : wrap64 ((m : Int) - 0) = (m : Int) := by unfold wrap64; omega
  have h4 : (m : Int) > 0 := by omega
  have hG := grownCap_ge w m 0 141
  have hG2 := grownCap_le_maxLen w m 0 141 (by rw [maxLen_eq]; omega)
  have hrz : ∀ ty, (Builtin.append_ #[79, 3] ty #[.slice none 0 0, .int .i64 (m : Int)]).run Tryz.prog w = .ok (.slice (some ⟨w.heap.size, 0, none⟩) m (grownCap w m 0 141)) (w.drew.alloc (.cells ((#[] : Array Value) ++ Builtin.zeroCells z.cells m ++ Builtin.zeroCells z.cells (grownCap w m 0 141 - m)) 141)) := fun ty => by
    have h := Lib.run_append_grow_zeros w 79 3 ty 141 i0 z .i64 .i64 hsl u3 hi0 hz0 none 0 0 [] (run_firstCells_none w.drew i0.size 0 0 0) m h0 (by omega) (by omega) (by omega) (by rw [hby]; omega) (by rw [Nat.zero_add]; exact growslice_fits h0 (by rw [hby]; omega))
    simp only [Nat.zero_add] at h
    exact h
  obtain ⟨G, hGe⟩ : ∃ G, G = grownCap w m 0 141 := ⟨_, rfl⟩
  obtain ⟨cur, hcu⟩ : ∃ cur, cur = (#[] : Array Value) ++ Builtin.zeroCells z.cells m ++ Builtin.zeroCells z.cells (G - m) := ⟨_, rfl⟩
  rw [← hGe] at hrz hG hG2
  have hcs : cur.size = G * 2 := by
    rw [hcu]
    simp only [Array.size_append, size_zeroCells, hzc, Array.size_empty, Nat.zero_add]
    omega
  rw [← hcu] at hrz
  have hG63 : G ≤ 9223372036854775807 := by rw [maxLen_eq] at hG2; exact hG2
  clear hGe hcu hzc hby hsz
  go_enter Tryz.func340, Tryz.ntmps340
  go_wp2_with (at_builtin; refine Lib.wpList_append_run _ rfl _ _ _ _ rfl _ _ rfl rfl _ _ (hrz _) ?_)
  all_goals (go_ret; exact ⟨G, rfl, cur, rfl, hcs, hG2⟩)
theorem grow_v (m : Nat) (h0 : 0 < m) (hm : m ≤ 1048576) : VCalls Tryz.prog 340 [.c (.slice none 0 0), I (m : Int)] (fun r M => r = .own 0 0 ∧ M = [some ⟨141, 2, 0, false, []⟩]) := by
  intro E vals hM hh hsl
  obtain rfl := Slots.plain (vs := [.slice none 0 0, .int .i64 (m : Int)]) hsl
  refine (growP m h0 hm E.win).mono ?_
  rintro e w' ⟨G, cur, rfl, rfl, hcs, hG⟩
  have hg : E.win.grownBy (E.win.drew.alloc (.cells cur 141)) none := by
    have g := World.grownBy_alloc E.win.drew (.cells cur 141) none
    exact ⟨g.1, g.2, g.3, g.4, g.5⟩
  have hβ : E.β = [] := List.length_eq_zero_iff.1 hh.len
  have hrow := hh.addRow hg (t := 141) (sz := 2) (v := .slice (some ⟨E.win.heap.size, 0, none⟩) 0 G) (es := []) (xs := [])
    ⟨rfl, .inr ⟨E.win.heap.size, G, cur, rfl, hh.bs, heap_alloc_new E.win.drew _, Nat.zero_le _, hG, hcs, by simp⟩⟩ (fun k hk => by simp [blockOf] at hk; omega) ⟨rfl, fun i r hr => by simp at hr⟩
  refine ⟨_, .own 0 0, _, E.Fx, _, rfl, ⟨rfl, rfl⟩, hrow.1, ⟨?_, hrow.2.size, fun k hk => .inl hk, ?_⟩, ?_⟩
  · rw [hM]; exact hrow.2.mv
  · intro id bk v k g1 g2 g3
    rcases hrow.2.own id bk v k g1 g2 g3 with h | ⟨_, _, _, h, _⟩
    · exact .inl h
    · simp at h
  · refine .own rfl (by simp [gens]) (fun g1 hg => by simp [gens] at hg; omega) (fun _ => ⟨Hd.flat _, ?_, rfl⟩)
    rw [hβ]
    rfl

end Go.Proofs.YtpffahmmklpifaaGreat.Abs

/- The walks of points dropped (reference). -/
namespace Go.Proofs.YtpffahmmklpifaaGreat.Abs
open Go.Proofs Go.RowKit
set_option linter.unusedVariables false
set_option linter.unusedSimpArgs false
set_option maxRecDepth 100000
set_option maxHeartbeats 2000000
attribute [local irreducible] OpA AL AW DL DLM DLR DLS QOp POp VCalls VCallsI
theorem crnA_s (l : List TPoint) (i : Nat) (hl : l.length ≤ 1048576) : VCalls Tryz.prog 303 [.ro 2 (l.map TPoint.en), I (i : Int)] (fun r M => r = I (crnA l i) ∧ M = []) := by
  refine VB Tryz.func303 34 (fun E hE => ?_)
  have hclo : Clo (.ro 2 (l.map TPoint.en)) := clo_list TPoint.clo_en
  have hq : (isLine l = false ∧ crnA l i = -1) ∨ (isLine l = true ∧ inP l i = false ∧ crnA l i = -1) ∨ (isLine l = true ∧ inP l i = true) := by
    cases h1 : isLine l
    · exact .inl ⟨rfl, crnA_n (.inl h1)⟩
    · cases h2 : inP l i
      · exact .inr (.inl ⟨rfl, rfl, crnA_n (.inr h2)⟩)
      · exact .inr (.inr ⟨rfl, rfl⟩)
  rcases hq with ⟨h1, hca⟩ | ⟨h1, h2, hca⟩ | ⟨h1, h2⟩
  case' inr.inr => obtain ⟨a, b, p, hca, hz1, hga, hgb, hz2, hgp⟩ := corner_line hl h1 h2
  repeat' ((first
    | (refine iAL ?_; first | refine AL.any ?_ | refine AL.any (h := POp.k Tryz.func222 (hc := max_s _ _)) ?_ | refine AL.any (h := POp.k Tryz.func238 (hc := isLine_s _ (by assumption))) ?_ | refine AL.any (h := POp.k Tryz.func294 (hc := crs_s a b p)) ?_ | refine AL.F ?_ | refine AL.T ?_ | refine AL.T (h := POp.k Tryz.func96 (hc := inr_s _ _ _)) ?_ | refine AL.nil ?_)
    | ((with_reducible show DL ..); first | refine DL.any ?_ | refine DL.nil ?_)
    | (refine iAW ?_; first | (refine AW.c0 ?_; constructor) | refine AW.dr (id := 3) 14 ?_ | refine AW.cT ?_ | refine AW.cF ?_)) <;> (try dsimp only))
  all_goals exact Fin.one rfl (RV.tmp (by rfl)) (clo_c _) ⟨by rw [hca] <;> first | rfl | (unfold triA wmax; rfl), rfl⟩

theorem crnS_s (l : List TPoint) (i : Nat) (hl : l.length ≤ 1048576) : VCalls Tryz.prog 304 [.ro 2 (l.map TPoint.en), I (i : Int)] (fun r M => r = I (crnS l i) ∧ M = []) := by
  refine VB Tryz.func304 43 (fun E hE => ?_)
  have hclo : Clo (.ro 2 (l.map TPoint.en)) := clo_list TPoint.clo_en
  have hq : (isRing l = false ∧ crnS l i = -1) ∨ (isRing l = true ∧ inC l i = false ∧ crnS l i = -1) ∨ (isRing l = true ∧ inC l i = true) := by
    cases h1 : isRing l
    · exact .inl ⟨rfl, crnS_n (.inl h1)⟩
    · cases h2 : inC l i
      · exact .inr (.inl ⟨rfl, rfl, crnS_n (.inr h2)⟩)
      · exact .inr (.inr ⟨rfl, rfl⟩)
  rcases hq with ⟨h1, hca⟩ | ⟨h1, h2, hca⟩ | ⟨h1, h2⟩
  case' inr.inr => obtain ⟨a, b, p, hca, hz0, hz1, hga, hgb, hz2, hgp⟩ := corner_ring hl h1 h2
  repeat' ((first
    | (refine iAL ?_; first | refine AL.any ?_ | refine AL.any (h := POp.k Tryz.func172 (hc := isRing_s _ (by assumption))) ?_ | refine AL.any (h := POp.k Tryz.func222 (hc := max_s _ _)) ?_ | refine AL.any (h := POp.k Tryz.func294 (hc := crs_s a b p)) ?_ | refine AL.F ?_ | refine AL.T ?_ | refine AL.T (h := POp.k Tryz.func96 (hc := inr_s _ _ _)) ?_ | refine AL.nil ?_)
    | ((with_reducible show DL ..); first | refine DL.any ?_ | refine DL.nil ?_)
    | (refine iAW ?_; first | (refine AW.c0 ?_; constructor) | refine AW.dr (id := 3) 23 ?_ | refine AW.cT ?_ | refine AW.cF ?_)) <;> (try dsimp only))
  all_goals exact Fin.one rfl (RV.tmp (by rfl)) (clo_c _) ⟨by rw [hca] <;> first | rfl | (unfold triA wmax; rfl), rfl⟩

theorem same_s (l m : List TPoint) (hl : l.length ≤ 1048576) (hm : m.length ≤ 1048576) : VCalls Tryz.prog 326 [.ro 2 (l.map TPoint.en), .ro 2 (m.map TPoint.en)] (fun r M => r = B (sameT l m) ∧ M = []) := by
  refine VB Tryz.func326 23 (fun E hE => ?_)
  have hclo : Clo (.ro 2 (l.map TPoint.en)) := clo_list TPoint.clo_en
  have hclm : Clo (.ro 2 (m.map TPoint.en)) := clo_list TPoint.clo_en
  rcases Bool.eq_false_or_eq_true (decide (twice l > 0)) with h1 | h1 <;> rcases Bool.eq_false_or_eq_true (decide (twice m > 0)) with h2 | h2 <;> rcases Bool.eq_false_or_eq_true (decide (twice l < 0)) with h3 | h3
  repeat' ((first
    | (refine iAL ?_; first | refine AL.any ?_ | refine AL.any (h := POp.k Tryz.func336 (hc := twice_s _ (by assumption))) ?_ | refine AL.U ?_ | refine AL.F ?_ | refine AL.T ?_ | refine AL.nil ?_)
    | (refine iAW ?_; (refine AW.c0 ?_; constructor))) <;> (try dsimp only))
  all_goals exact Fin.one rfl (RV.tmp (by rfl)) (clo_c _) ⟨by unfold sameT; simp only [*, Bool.true_or, Bool.false_or, Bool.true_and, Bool.false_and, Bool.or_false, Bool.and_false, Bool.and_true, Bool.or_true], rfl⟩

theorem triA_i (a b p : TPoint) : VCalls Tryz.prog 327 [.agg a.en, .agg b.en, .agg p.en] (fun r M => r = I (triA a b p) ∧ M = []) := by
  refine VB Tryz.func327 13 (fun E hE => ?_)
  dsimp only [TPoint.en]
  repeat' ((first
    | (refine iAL ?_; first | refine AL.any ?_ | refine AL.any (h := POp.k Tryz.func298 (hc := crs_i a b p)) ?_ | refine AL.nil ?_)
    | (refine iAW ?_; (refine AW.c0 ?_; constructor))) <;> (try dsimp only))
  all_goals exact Fin.one rfl (RV.tmp (by rfl)) (clo_c _) ⟨by first | rfl | (simp only [triA, wmax]; split <;> simp_all <;> omega), rfl⟩

theorem crnA_i (l : List TPoint) (i : Nat) (hl : l.length ≤ 1048576) : VCalls Tryz.prog 307 [.ro 2 (l.map TPoint.en), I (i : Int)] (fun r M => r = I (crnA l i) ∧ M = []) := by
  refine VB Tryz.func307 29 (fun E hE => ?_)
  have hclo : Clo (.ro 2 (l.map TPoint.en)) := clo_list TPoint.clo_en
  have hq : (isLine l = false ∧ crnA l i = -1) ∨ (isLine l = true ∧ inP l i = false ∧ crnA l i = -1) ∨ (isLine l = true ∧ inP l i = true) := by
    cases h1 : isLine l
    · exact .inl ⟨rfl, crnA_n (.inl h1)⟩
    · cases h2 : inP l i
      · exact .inr (.inl ⟨rfl, rfl, crnA_n (.inr h2)⟩)
      · exact .inr (.inr ⟨rfl, rfl⟩)
  rcases hq with ⟨h1, hca⟩ | ⟨h1, h2, hca⟩ | ⟨h1, h2⟩
  case' inr.inr => obtain ⟨a, b, p, hca, hz1, hga, hgb, hz2, hgp⟩ := corner_line hl h1 h2
  repeat' ((first
    | (refine iAL ?_; first | refine AL.any ?_ | refine AL.any (h := POp.k Tryz.func245 (hc := isLine_i _ (by assumption))) ?_ | refine AL.any (h := POp.k Tryz.func327 (hc := triA_i a b p)) ?_ | refine AL.F ?_ | refine AL.T ?_ | refine AL.T (h := POp.k Tryz.func145 (hc := inr_v _ _ _)) ?_ | refine AL.nil ?_)
    | ((with_reducible show DL ..); first | refine DL.any ?_ | refine DL.nil ?_)
    | (refine iAW ?_; first | (refine AW.c0 ?_; constructor) | refine AW.dr (id := 3) 14 ?_ | refine AW.cT ?_ | refine AW.cF ?_)) <;> (try dsimp only))
  all_goals exact Fin.one rfl (RV.tmp (by rfl)) (clo_c _) ⟨by rw [hca] <;> first | rfl | (unfold triA wmax; rfl), rfl⟩

theorem crnS_i (l : List TPoint) (i : Nat) (hl : l.length ≤ 1048576) : VCalls Tryz.prog 308 [.ro 2 (l.map TPoint.en), I (i : Int)] (fun r M => r = I (crnS l i) ∧ M = []) := by
  refine VB Tryz.func308 38 (fun E hE => ?_)
  have hclo : Clo (.ro 2 (l.map TPoint.en)) := clo_list TPoint.clo_en
  have hq : (isRing l = false ∧ crnS l i = -1) ∨ (isRing l = true ∧ inC l i = false ∧ crnS l i = -1) ∨ (isRing l = true ∧ inC l i = true) := by
    cases h1 : isRing l
    · exact .inl ⟨rfl, crnS_n (.inl h1)⟩
    · cases h2 : inC l i
      · exact .inr (.inl ⟨rfl, rfl, crnS_n (.inr h2)⟩)
      · exact .inr (.inr ⟨rfl, rfl⟩)
  rcases hq with ⟨h1, hca⟩ | ⟨h1, h2, hca⟩ | ⟨h1, h2⟩
  case' inr.inr => obtain ⟨a, b, p, hca, hz0, hz1, hga, hgb, hz2, hgp⟩ := corner_ring hl h1 h2
  repeat' ((first
    | (refine iAL ?_; first | refine AL.any ?_ | refine AL.any (h := POp.k Tryz.func182 (hc := isRing_i _ (by assumption))) ?_ | refine AL.any (h := POp.k Tryz.func327 (hc := triA_i a b p)) ?_ | refine AL.F ?_ | refine AL.T ?_ | refine AL.T (h := POp.k Tryz.func145 (hc := inr_v _ _ _)) ?_ | refine AL.nil ?_)
    | ((with_reducible show DL ..); first | refine DL.any ?_ | refine DL.nil ?_)
    | (refine iAW ?_; first | (refine AW.c0 ?_; constructor) | refine AW.dr (id := 4) 20 ?_ | refine AW.cT ?_ | refine AW.cF ?_)) <;> (try dsimp only))
  all_goals exact Fin.one rfl (RV.tmp (by rfl)) (clo_c _) ⟨by rw [hca] <;> first | rfl | (unfold triA wmax; rfl), rfl⟩

theorem dp_s (l : List TPoint) (i : Nat) (hl : l.length ≤ 1048576) : VCalls Tryz.prog 305 [.ro 2 (l.map TPoint.en), I (i : Int)] (fun r M => r = .tup [.ro 2 ((dpL l i).map TPoint.en), B (dpOk l i)] ∧ M = []) := by
  refine VB Tryz.func305 36 (fun E hE => ?_)
  have hclo : Clo (.ro 2 (l.map TPoint.en)) := clo_list TPoint.clo_en
  rcases dp_cases l i with ⟨h1, hpk, hpl⟩ | ⟨h1, h2, hpk, hpl⟩ | ⟨h1, h2, h3, hpk, hpl⟩ | ⟨h1, h2, h3, hpk, hpl⟩
  case' inr.inr.inl =>
    have hil : i < l.length := by have := inP_t hl h2; omega
    obtain ⟨c1, c2, c3, c4, c5⟩ := drp_cut hil hl
    have hd := drp_len hil
    have hl2 : (drp l i).length ≤ 1048576 := by omega
    have hdm := drp_map l i
    have hclD : Clo (.ro 2 ((drp l i).map TPoint.en)) := clo_list TPoint.clo_en
    have hcr : ∀ r ∈ (l.take i).map TPoint.en ++ (l.drop (i + 1)).map TPoint.en, ∀ y ∈ r, Clo y := hdm ▸ clo_rows TPoint.clo_en
  case' inr.inr.inr =>
    have hil : i < l.length := by have := inP_t hl h2; omega
    obtain ⟨c1, c2, c3, c4, c5⟩ := drp_cut hil hl
    have hd := drp_len hil
    have hl2 : (drp l i).length ≤ 1048576 := by omega
    have hdm := drp_map l i
    have hclD : Clo (.ro 2 ((drp l i).map TPoint.en)) := clo_list TPoint.clo_en
    have hcr : ∀ r ∈ (l.take i).map TPoint.en ++ (l.drop (i + 1)).map TPoint.en, ∀ y ∈ r, Clo y := hdm ▸ clo_rows TPoint.clo_en
  repeat' ((first
    | (refine iAL ?_; first | refine AL.any ?_ | refine AL.any (h := POp.k Tryz.func238 (hc := isLine_s _ (by assumption))) ?_ | refine AL.F ?_ | refine AL.T ?_ | refine AL.T (h := POp.k Tryz.func96 (hc := inr_s _ _ _)) ?_ | refine AL.nil ?_)
    | ((with_reducible show DLR ..); first | refine DLR.any ?_ | refine DLR.row rfl (fun Y => RowRun.empty (by rfl) (by rfl) (by first | exact rwk22 | exact rwk23 | exact rwk24 | exact rwk31 | exact rwk32 | exact rwk33 | exact rwk79)) rfl rfl ?_ | refine DLR.append rfl (by rfl) (by first | exact rwk22 | exact rwk23 | exact rwk24 | exact rwk31 | exact rwk32 | exact rwk33 | exact rwk79) (by rfl) rfl rfl rfl rfl rfl rfl (by rfl) (by first | (simp <;> omega) | omega) (by first | (simp [maxLen] <;> omega) | (simp_all [maxLen] <;> omega)) ?_ | refine DLR.nil ?_)
    | (refine iAW ?_; first | (rw [hdm]) | (refine AW.freeze /-Ret-/ (t := 6) (id := 0) rfl rfl rfl rfl (clo_rows TPoint.clo_en) ?_; try dsimp only [dput, List.set, cond_true, cond_false, Nat.zero_add, Nat.add_zero, Nat.reduceAdd, splice, List.take, List.drop, List.length, List.nil_append, List.cons_append, List.append, TPoint.en, TSegment.en, TBox.en, TFeature.en, TMeet.en, TPlace.en, TCover.en, TLabel.en, TPiece.en, TLevel.en, TChart.en, TReason.en, TEdit.en, TEntry.en, TEdition.en, TListing.en, TAtlas.en, TEvent.en, TWindow.en]) | (refine AW.freezeRet (t := 4) (id := 0) rfl rfl rfl rfl (clo_rows TPoint.clo_en) ?_; (try simp only [List.take_length]); try dsimp only [dput, List.set, cond_true, cond_false, Nat.zero_add, Nat.add_zero, Nat.reduceAdd, splice, List.take, List.drop, List.length, List.nil_append, List.cons_append, List.append, TPoint.en, TSegment.en, TBox.en, TFeature.en, TMeet.en, TPlace.en, TCover.en, TLabel.en, TPiece.en, TLevel.en, TChart.en, TReason.en, TEdit.en, TEntry.en, TEdition.en, TListing.en, TAtlas.en, TEvent.en, TWindow.en]) | (refine AW.freezeRet (t := 4) (id := 1) rfl rfl rfl rfl (clo_rows TPoint.clo_en) ?_; (try simp only [List.take_length]); try dsimp only [dput, List.set, cond_true, cond_false, Nat.zero_add, Nat.add_zero, Nat.reduceAdd, splice, List.take, List.drop, List.length, List.nil_append, List.cons_append, List.append, TPoint.en, TSegment.en, TBox.en, TFeature.en, TMeet.en, TPlace.en, TCover.en, TLabel.en, TPiece.en, TLevel.en, TChart.en, TReason.en, TEdit.en, TEntry.en, TEdition.en, TListing.en, TAtlas.en, TEvent.en, TWindow.en]) | (refine AW.c0 ?_; constructor) | refine AW.drawnR (id := 3) 9 1 [some 0, none, none, none, some 0, none, none, none, none] [some Rsv] rfl (by kernel_rfl) (by kernel_rfl) (by kernel_rfl) (by rfl) ?_ | refine AW.cT ?_ | refine AW.cF ?_)
    | ((with_reducible show DLR ..); first | refine DLR.any (h := fun Y => POp.quiet (QOp.cut_h (by rfl) slk79 (by rfl) (by rfl) (by first | decide | omega) (by first | assumption | omega) (by assumption))) ?_ | refine DLR.any (h := fun Y => POp.quiet (QOp.cut_l (by rfl) slk79 (by rfl) (by rfl) (by first | decide | omega) (by first | assumption | omega) (by assumption))) ?_)) <;> (try dsimp only))
  all_goals exact Fin.two rfl (RV.tmp (by rfl)) (RV.tmp (by rfl)) (Clo.tup (clo_cons (clo_list TPoint.clo_en) (clo_cons (clo_c _) clo_nil))) ⟨by rw [hpl, hpk], rfl⟩

theorem dc_s (l : List TPoint) (i : Nat) (hl : l.length ≤ 1048576) : VCalls Tryz.prog 306 [.ro 2 (l.map TPoint.en), I (i : Int)] (fun r M => r = .tup [.ro 2 ((dcL l i).map TPoint.en), B (dcOk l i)] ∧ M = []) := by
  refine VB Tryz.func306 42 (fun E hE => ?_)
  have hclo : Clo (.ro 2 (l.map TPoint.en)) := clo_list TPoint.clo_en
  rcases dc_cases l i with ⟨h1, hpk, hpl⟩ | ⟨h1, h2, hpk, hpl⟩ | ⟨h1, h2, h3, hpk, hpl⟩ | ⟨h1, h2, h3, h4, hpk, hpl⟩ | ⟨h1, h2, h3, h4, hpk, hpl⟩
  case' inr.inr.inl =>
    have hil : i < l.length := inC_t hl h2
    obtain ⟨c1, c2, c3, c4, c5⟩ := drp_cut hil hl
    have hd := drp_len hil
    have hl2 : (drp l i).length ≤ 1048576 := by omega
    have hdm := drp_map l i
    have hclD : Clo (.ro 2 ((drp l i).map TPoint.en)) := clo_list TPoint.clo_en
    have hcr : ∀ r ∈ (l.take i).map TPoint.en ++ (l.drop (i + 1)).map TPoint.en, ∀ y ∈ r, Clo y := hdm ▸ clo_rows TPoint.clo_en
  case' inr.inr.inr.inl =>
    have hil : i < l.length := inC_t hl h2
    obtain ⟨c1, c2, c3, c4, c5⟩ := drp_cut hil hl
    have hd := drp_len hil
    have hl2 : (drp l i).length ≤ 1048576 := by omega
    have hdm := drp_map l i
    have hclD : Clo (.ro 2 ((drp l i).map TPoint.en)) := clo_list TPoint.clo_en
    have hcr : ∀ r ∈ (l.take i).map TPoint.en ++ (l.drop (i + 1)).map TPoint.en, ∀ y ∈ r, Clo y := hdm ▸ clo_rows TPoint.clo_en
  case' inr.inr.inr.inr =>
    have hil : i < l.length := inC_t hl h2
    obtain ⟨c1, c2, c3, c4, c5⟩ := drp_cut hil hl
    have hd := drp_len hil
    have hl2 : (drp l i).length ≤ 1048576 := by omega
    have hdm := drp_map l i
    have hclD : Clo (.ro 2 ((drp l i).map TPoint.en)) := clo_list TPoint.clo_en
    have hcr : ∀ r ∈ (l.take i).map TPoint.en ++ (l.drop (i + 1)).map TPoint.en, ∀ y ∈ r, Clo y := hdm ▸ clo_rows TPoint.clo_en
  repeat' ((first
    | (refine iAL ?_; first | refine AL.any ?_ | refine AL.any (h := POp.k Tryz.func172 (hc := isRing_s _ (by assumption))) ?_ | refine AL.F ?_ | refine AL.T ?_ | refine AL.T (h := POp.k Tryz.func96 (hc := inr_s _ _ _)) ?_ | refine AL.T (h := POp.k Tryz.func326 (hc := same_s l (drp l i) (by assumption) (by assumption))) ?_ | refine AL.nil ?_)
    | ((with_reducible show DLR ..); first | refine DLR.any ?_ | refine DLR.row rfl (fun Y => RowRun.empty (by rfl) (by rfl) (by first | exact rwk22 | exact rwk23 | exact rwk24 | exact rwk32 | exact rwk33 | exact rwk79)) rfl rfl ?_ | refine DLR.append rfl (by rfl) (by first | exact rwk22 | exact rwk23 | exact rwk24 | exact rwk32 | exact rwk33 | exact rwk79) (by rfl) rfl rfl rfl rfl rfl rfl (by rfl) (by first | (simp <;> omega) | omega) (by first | (simp [maxLen] <;> omega) | (simp_all [maxLen] <;> omega)) ?_ | refine DLR.nil ?_)
    | (refine iAW ?_; first | (rw [hdm]) | (refine AW.freeze /-Ret-/ (t := 6) (id := 0) rfl rfl rfl rfl (clo_rows TPoint.clo_en) ?_; try dsimp only [dput, List.set, cond_true, cond_false, Nat.zero_add, Nat.add_zero, Nat.reduceAdd, splice, List.take, List.drop, List.length, List.nil_append, List.cons_append, List.append, TPoint.en, TSegment.en, TBox.en, TFeature.en, TMeet.en, TPlace.en, TCover.en, TLabel.en, TPiece.en, TLevel.en, TChart.en, TReason.en, TEdit.en, TEntry.en, TEdition.en, TListing.en, TAtlas.en, TEvent.en, TWindow.en]) | (refine AW.freezeRet (t := 4) (id := 0) rfl rfl rfl rfl (clo_rows TPoint.clo_en) ?_; (try simp only [List.take_length]); try dsimp only [dput, List.set, cond_true, cond_false, Nat.zero_add, Nat.add_zero, Nat.reduceAdd, splice, List.take, List.drop, List.length, List.nil_append, List.cons_append, List.append, TPoint.en, TSegment.en, TBox.en, TFeature.en, TMeet.en, TPlace.en, TCover.en, TLabel.en, TPiece.en, TLevel.en, TChart.en, TReason.en, TEdit.en, TEntry.en, TEdition.en, TListing.en, TAtlas.en, TEvent.en, TWindow.en]) | (refine AW.freezeRet (t := 4) (id := 1) rfl rfl rfl rfl (clo_rows TPoint.clo_en) ?_; (try simp only [List.take_length]); try dsimp only [dput, List.set, cond_true, cond_false, Nat.zero_add, Nat.add_zero, Nat.reduceAdd, splice, List.take, List.drop, List.length, List.nil_append, List.cons_append, List.append, TPoint.en, TSegment.en, TBox.en, TFeature.en, TMeet.en, TPlace.en, TCover.en, TLabel.en, TPiece.en, TLevel.en, TChart.en, TReason.en, TEdit.en, TEntry.en, TEdition.en, TListing.en, TAtlas.en, TEvent.en, TWindow.en]) | (refine AW.c0 ?_; constructor) | refine AW.drawnR (id := 3) 9 1 [some 0, none, none, none, some 0, none, none, none, none] [some Rsv] rfl (by kernel_rfl) (by kernel_rfl) (by kernel_rfl) (by rfl) ?_ | refine AW.cT ?_ | refine AW.cF ?_)
    | ((with_reducible show DLR ..); first | refine DLR.any (h := fun Y => POp.quiet (QOp.cut_h (by rfl) slk79 (by rfl) (by rfl) (by first | decide | omega) (by first | assumption | omega) (by assumption))) ?_ | refine DLR.any (h := fun Y => POp.quiet (QOp.cut_l (by rfl) slk79 (by rfl) (by rfl) (by first | decide | omega) (by first | assumption | omega) (by assumption))) ?_)) <;> (try dsimp only))
  all_goals exact Fin.two rfl (RV.tmp (by rfl)) (RV.tmp (by rfl)) (Clo.tup (clo_cons (clo_list TPoint.clo_en) (clo_cons (clo_c _) clo_nil))) ⟨by rw [hpl, hpk], rfl⟩

abbrev pcL (p : List TPoint) : List AV := [.ro 2 (p.map TPoint.en)]
theorem clo_pcL : ∀ p : List TPoint, ∀ x ∈ pcL p, Clo x := fun p => clo_cons (clo_list TPoint.clo_en) clo_nil
abbrev sumTo (ps : List (List TPoint)) (i : Nat) : Nat := ((ps.take i).map List.length).sum
theorem sumTo_succ {ps : List (List TPoint)} {i : Nat} {p : List TPoint} (h : ps[i]? = some p) : sumTo ps (i + 1) = sumTo ps i + p.length := by
  unfold sumTo
  rw [take_succ_of h]
  simp
theorem sum_mono {ps : List (List TPoint)} : ∀ i, sumTo ps i ≤ sumTo ps (i + 1) := fun i => by
  cases h : ps[i]? with
  | some p => rw [sumTo_succ h]; omega
  | none =>
    have : ps.length ≤ i := List.getElem?_eq_none_iff.1 h
    unfold sumTo
    rw [List.take_of_length_le this, List.take_of_length_le (by omega)]
    exact Nat.le_refl _
theorem sumTo_le {ps : List (List TPoint)} : ∀ {i j : Nat}, i ≤ j → sumTo ps i ≤ sumTo ps j := fun {i j} h => by
  induction j with
  | zero => rw [show i = 0 by omega]; exact Nat.le_refl _
  | succ j ih =>
    rcases Nat.lt_or_ge j i with h2 | h2
    · rw [show i = j + 1 by omega]; exact Nat.le_refl _
    · exact Nat.le_trans (ih h2) (sum_mono j)
theorem flat_succ {ps : List (List TPoint)} {i : Nat} {p : List TPoint} (h : ps[i]? = some p) : (ps.take (i + 1)).flatten.map TPoint.en = (ps.take i).flatten.map TPoint.en ++ p.map TPoint.en := by
  rw [take_succ_of h, List.flatten_append, List.map_append]
  simp

theorem concat_v (ps : List (List TPoint)) (hps : ps.length ≤ 16) (hs1 : 0 < sumTo ps ps.length) (hs2 : sumTo ps ps.length ≤ 1048576) : VCalls Tryz.prog 337 [.ro 1 (ps.map pcL)] (fun r M => r = .own 0 0 ∧ M = [some ⟨141, 2, 0, false, (ps.flatten).map TPoint.en⟩]) := by
  refine VB Tryz.func337 35 (fun E hE => ?_)
  have a1 := True.intro
  have hclo : Clo (.ro 1 (ps.map pcL)) := clo_list clo_pcL
  repeat' ((first
    | (refine iAL ?_; first | refine AL.any ?_ | refine AL.any (h := POp.O Tryz.func340 (hc := grow_v (sumTo ps ps.length) (by assumption) (by assumption))) ?_ | refine AL.nil ?_)
    | (refine iAW ?_; first | (rw [hsm]) | (refine AW.c0 ?_; constructor) | refine AW.cT ?_ | refine AW.cF ?_)
    | (
  have _ := a1
  clear a1
  refine AW.loopD hE (fun s_ : Nat => [.ro 1 (ps.map pcL), .any, .any, I ((sumTo ps s_ : Nat) : Int), .any, .any, .any, .any, .any, .ro 1 (ps.map pcL), I ((ps.map pcL).length : Int), I (s_ : Int), .any, .any, .any, .any, .any, .any, .any, .any, .any, .any, .any, .any, .any, .any, .any, .any, .any, .any, .any, .any, .any, .any, .any, .any]) (fun s_ => []) (fun s_ => ps.length - s_) (fun s_ => s_ ≤ ps.length) 0 (Nat.zero_le _) ?_ (by first | rfl | (rfl)) ?_
  (focus ((refine wkj ?_; repeat' with_reducible constructor) <;> first | rfl | (simp [sumTo])))
  rintro i hJ
  try dsimp only at hJ
  try dsimp only
  by_cases hlt : i < ps.length
  case' pos =>
    have p1 := True.intro
    obtain ⟨x, hx⟩ := getD_some (l := ps) (i := i) hlt
    have hg := map_get (f := pcL) hx
    have ht := lt_true (f := pcL) hlt
    have hn := next_ix hlt (by omega)
    have hss := sumTo_succ hx
    have hle := sumTo_le (ps := ps) (i := i + 1) (j := ps.length) hlt
    have hsm : IntKind.i64.wrap (((sumTo ps i : Nat) : Int) + ((x.map TPoint.en).length : Int)) = ((sumTo ps (i + 1) : Nat) : Int) := by rw [List.length_map, w64 (by omega) (by omega), hss]; omega
    have hs0 : decide (((sumTo ps (i + 1) : Nat) : Int) < 0) = false := decide_eq_false (by omega)
    have hclx : Clo (.ro 2 (x.map TPoint.en)) := clo_list TPoint.clo_en
  case' neg =>
    have a2 := True.intro
    have ht := lt_false (f := pcL) hlt
    obtain rfl : i = ps.length := by omega)
    | (
  have _ := a2
  clear a2
  refine AW.loopD hE (fun s_ : Nat => [.ro 1 (ps.map pcL), .any, .any, .any, .any, .any, .own 0 s_, .any, .any, .any, .any, .any, .any, .any, .any, .any, .any, .any, .any, .any, .any, .any, .any, .any, .any, .ro 1 (ps.map pcL), I ((ps.map pcL).length : Int), I (s_ : Int), .any, .any, .any, .any, .any, .any, .any, .any]) (fun s_ => [some ⟨141, 2, s_, false, ((ps.take s_).flatten).map TPoint.en⟩]) (fun s_ => ps.length - s_) (fun s_ => s_ ≤ ps.length) 0 (Nat.zero_le _) ?_ (by first | rfl | (rfl)) ?_
  (focus (exact wkI))
  rintro j hJ
  try dsimp only at hJ
  try dsimp only
  by_cases hlt : j < ps.length
  case' pos =>
    have p2 := True.intro
    obtain ⟨x, hx⟩ := getD_some (l := ps) (i := j) hlt
    have hg := map_get (f := pcL) hx
    have ht := lt_true (f := pcL) hlt
    have hn := next_ix hlt (by omega)
    have hm := flat_succ hx
    have hf1 : (List.take j (List.map (List.length ∘ List.map TPoint.en) ps)).sum = sumTo ps j := by unfold sumTo; rw [List.map_take]; congr 2; exact List.map_congr_left fun p _ => by simp
    have hss := sumTo_succ hx
    have hle := sumTo_le (ps := ps) (i := j + 1) (j := ps.length) hlt
    have hclx : Clo (.ro 2 (x.map TPoint.en)) := clo_list TPoint.clo_en
  case' neg =>
    have q2 := True.intro
    have ht := lt_false (f := pcL) hlt
    obtain rfl : j = ps.length := by omega
    rw [List.take_length])) <;> (try dsimp only))
  all_goals first
    | (have _ := p1; refine ⟨i + 1, _, hlt, by omega, ?_, rfl, ?_, ?_⟩; (focus (exact wkH)); (focus (exact fitsA)); (focus (exact FitsM.nil _)))
    | (have _ := p2; refine ⟨j + 1, _, hlt, by omega, ?_, by rw [hm] <;> rfl, ?_, ?_⟩; (focus (exact wkH)); (focus (exact fitsA)); (focus (exact fits_row (clo_rows TPoint.clo_en))))
    | (have _ := q2; exact Fin.r1 [0] rfl (RV.tmp (by rfl)) ⟨rfl, rfl⟩)

theorem without_v (l : List TPoint) (i : Nat) (hl : l.length ≤ 1048576) (hil : i < l.length) (h2l : 2 ≤ l.length) : VCalls Tryz.prog 328 [.ro 2 (l.map TPoint.en), I (i : Int)] (fun r M => r = .own 0 0 ∧ M = [some ⟨141, 2, 0, false, (drp l i).map TPoint.en⟩]) := by
  refine VB Tryz.func328 12 (fun E hE => ?_)
  have hclo : Clo (.ro 2 (l.map TPoint.en)) := clo_list TPoint.clo_en
  obtain ⟨c1, c2, c3, c4, c5⟩ := drp_cut hil hl
  have hd := drp_len hil
  have hsum : sumTo [l.take i, l.drop (i + 1)] 2 = (drp l i).length := by simp [drp, sumTo]
  have hs1 : 0 < sumTo [l.take i, l.drop (i + 1)] [l.take i, l.drop (i + 1)].length := by show 0 < sumTo _ 2; omega
  have hs2 : sumTo [l.take i, l.drop (i + 1)] [l.take i, l.drop (i + 1)].length ≤ 1048576 := by show sumTo _ 2 ≤ _; omega
  have hca : Clo (.ro 2 ((l.take i).map TPoint.en)) := clo_list TPoint.clo_en
  have hcb : Clo (.ro 2 ((l.drop (i + 1)).map TPoint.en)) := clo_list TPoint.clo_en
  have hfl : [l.take i, l.drop (i + 1)].flatten = drp l i := by simp [drp]
  have hcr2 : ∀ r ∈ ([[.ro 2 ((l.take i).map TPoint.en)], [.ro 2 ((l.drop (i + 1)).map TPoint.en)]] : List (List AV)), ∀ x ∈ r, Clo x := fun r hr => by
    rcases List.mem_cons.1 hr with rfl | hr
    · exact clo_cons hca clo_nil
    · rw [List.mem_singleton.1 hr]; exact clo_cons hcb clo_nil
  have hcl2 : Clo (.ro 1 [[.ro 2 ((l.take i).map TPoint.en)], [.ro 2 ((l.drop (i + 1)).map TPoint.en)]]) := Clo.ro hcr2
  have hcl3 : Clo (.ro 1 ([[.ro 2 ((l.take i).map TPoint.en)], [.ro 2 ((l.drop (i + 1)).map TPoint.en)]] : List (List AV)).reverse) := Clo.ro fun r hr => hcr2 r (List.mem_reverse.1 hr)
  repeat' ((first
    | (refine iAL ?_; first | refine AL.at 12 (h := POp.lit0 (RowRun.literal (by rfl) rwk295 (by rfl) (by rfl) (by rfl) (by rfl) (by rfl) (by rfl)) hcr2) ?_ | refine AL.any ?_ | refine AL.any (h := POp.O Tryz.func337 (hc := concat_v [l.take i, l.drop (i + 1)] (by simp) hs1 hs2)) ?_ | refine AL.nil ?_)
    | ((with_reducible show DL ..); first | refine DL.any ?_ | refine DL.nil ?_)
    | (refine iAW ?_; first | (refine AW.c0 ?_; constructor) | refine AW.dr (id := 1) 7 ?_)
    | ((with_reducible show DL ..); first | refine DL.any (h := POp.quiet (QOp.cut_h (by rfl) slk79 (by rfl) (by rfl) (by first | decide | omega) (by first | assumption | omega) (by assumption))) ?_ | refine DL.any (h := POp.quiet (QOp.cut_l (by rfl) slk79 (by rfl) (by rfl) (by first | decide | omega) (by first | assumption | omega) (by assumption))) ?_)) <;> (try dsimp only))
  all_goals exact Fin.r1 [0] rfl (RV.tmp (by rfl)) ⟨rfl, by rw [hfl] <;> rfl⟩

theorem without_r (l : List TPoint) (i : Nat) (hl : l.length ≤ 1048576) (hil : i < l.length) (h2l : 2 ≤ l.length) : VCalls Tryz.prog 328 [.ro 2 (l.map TPoint.en), I (i : Int)] (fun r M => r = .ro 2 ((drp l i).map TPoint.en) ∧ M = []) := VCalls.frz (without_v l i hl hil h2l) vwlT
theorem cloneP_r (l : List TPoint) (hl : l.length ≤ 1048576) : VCalls Tryz.prog 178 [.ro 2 (l.map TPoint.en)] (fun r M => r = .ro 2 (l.map TPoint.en) ∧ M = []) := VCalls.frz (clonePoint l hl) vwlT
theorem dp_i (l : List TPoint) (i : Nat) (hl : l.length ≤ 1048576) : VCalls Tryz.prog 309 [.ro 2 (l.map TPoint.en), I (i : Int)] (fun r M => r = .tup [.ro 2 ((dpL l i).map TPoint.en), B (dpOk l i)] ∧ M = []) := by
  refine VB Tryz.func309 27 (fun E hE => ?_)
  have hclo : Clo (.ro 2 (l.map TPoint.en)) := clo_list TPoint.clo_en
  rcases dp_cases l i with ⟨h1, hpk, hpl⟩ | ⟨h1, h2, hpk, hpl⟩ | ⟨h1, h2, h3, hpk, hpl⟩ | ⟨h1, h2, h3, hpk, hpl⟩
  case' inr.inr.inl =>
    have hil : i < l.length := by have := inP_t hl h2; omega
    obtain ⟨c1, c2, c3, c4, c5⟩ := drp_cut hil hl
    have hd := drp_len hil
    have hl2 : (drp l i).length ≤ 1048576 := by omega
    have hdm := drp_map l i
    have hclD : Clo (.ro 2 ((drp l i).map TPoint.en)) := clo_list TPoint.clo_en
    have hcr : ∀ r ∈ (l.take i).map TPoint.en ++ (l.drop (i + 1)).map TPoint.en, ∀ y ∈ r, Clo y := hdm ▸ clo_rows TPoint.clo_en
    have hlr := inP_t hl h2
  case' inr.inr.inr =>
    have hil : i < l.length := by have := inP_t hl h2; omega
    obtain ⟨c1, c2, c3, c4, c5⟩ := drp_cut hil hl
    have hd := drp_len hil
    have hl2 : (drp l i).length ≤ 1048576 := by omega
    have hdm := drp_map l i
    have hclD : Clo (.ro 2 ((drp l i).map TPoint.en)) := clo_list TPoint.clo_en
    have hcr : ∀ r ∈ (l.take i).map TPoint.en ++ (l.drop (i + 1)).map TPoint.en, ∀ y ∈ r, Clo y := hdm ▸ clo_rows TPoint.clo_en
    have hlr := inP_t hl h2
  repeat' ((first
    | (refine iAL ?_; first | refine AL.any ?_ | refine AL.any (h := POp.k Tryz.func178 (hc := cloneP_r l hl)) ?_ | refine AL.any (h := POp.k Tryz.func245 (hc := isLine_i _ (by assumption))) ?_ | refine AL.any (h := POp.k Tryz.func328 (hc := without_r l i hl hil (by omega))) ?_ | refine AL.F ?_ | refine AL.T ?_ | refine AL.T (h := POp.k Tryz.func145 (hc := inr_v _ _ _)) ?_ | refine AL.nil ?_)
    | (refine iAW ?_; first | (refine AW.c0 ?_; constructor) | refine AW.cT ?_ | refine AW.cF ?_)) <;> (try dsimp only))
  all_goals exact Fin.two rfl (RV.tmp (by rfl)) (RV.tmp (by rfl)) (Clo.tup (clo_cons (clo_list TPoint.clo_en) (clo_cons (clo_c _) clo_nil))) ⟨by rw [hpl, hpk], rfl⟩

theorem dc_i (l : List TPoint) (i : Nat) (hl : l.length ≤ 1048576) : VCalls Tryz.prog 310 [.ro 2 (l.map TPoint.en), I (i : Int)] (fun r M => r = .tup [.ro 2 ((dcL l i).map TPoint.en), B (dcOk l i)] ∧ M = []) := by
  refine VB Tryz.func310 36 (fun E hE => ?_)
  have hclo : Clo (.ro 2 (l.map TPoint.en)) := clo_list TPoint.clo_en
  rcases dc_cases l i with ⟨h1, hpk, hpl⟩ | ⟨h1, h2, hpk, hpl⟩ | ⟨h1, h2, h3, hpk, hpl⟩ | ⟨h1, h2, h3, h4, hpk, hpl⟩ | ⟨h1, h2, h3, h4, hpk, hpl⟩
  case' inr.inr.inl =>
    have hil : i < l.length := inC_t hl h2
    obtain ⟨c1, c2, c3, c4, c5⟩ := drp_cut hil hl
    have hd := drp_len hil
    have hl2 : (drp l i).length ≤ 1048576 := by omega
    have hdm := drp_map l i
    have hclD : Clo (.ro 2 ((drp l i).map TPoint.en)) := clo_list TPoint.clo_en
    have hcr : ∀ r ∈ (l.take i).map TPoint.en ++ (l.drop (i + 1)).map TPoint.en, ∀ y ∈ r, Clo y := hdm ▸ clo_rows TPoint.clo_en
    have hlr := (isRing_len h1).1
  case' inr.inr.inr.inl =>
    have hil : i < l.length := inC_t hl h2
    obtain ⟨c1, c2, c3, c4, c5⟩ := drp_cut hil hl
    have hd := drp_len hil
    have hl2 : (drp l i).length ≤ 1048576 := by omega
    have hdm := drp_map l i
    have hclD : Clo (.ro 2 ((drp l i).map TPoint.en)) := clo_list TPoint.clo_en
    have hcr : ∀ r ∈ (l.take i).map TPoint.en ++ (l.drop (i + 1)).map TPoint.en, ∀ y ∈ r, Clo y := hdm ▸ clo_rows TPoint.clo_en
    have hlr := (isRing_len h1).1
  case' inr.inr.inr.inr =>
    have hil : i < l.length := inC_t hl h2
    obtain ⟨c1, c2, c3, c4, c5⟩ := drp_cut hil hl
    have hd := drp_len hil
    have hl2 : (drp l i).length ≤ 1048576 := by omega
    have hdm := drp_map l i
    have hclD : Clo (.ro 2 ((drp l i).map TPoint.en)) := clo_list TPoint.clo_en
    have hcr : ∀ r ∈ (l.take i).map TPoint.en ++ (l.drop (i + 1)).map TPoint.en, ∀ y ∈ r, Clo y := hdm ▸ clo_rows TPoint.clo_en
    have hlr := (isRing_len h1).1
  case' inr.inr.inr.inl => have hcm := turn_cmp h1 h3
  case' inr.inr.inr.inr => have hcm := turn_cmp h1 h3
  all_goals try (rw [h4] at hcm; simp only [Bool.not_true, Bool.not_false] at hcm)
  repeat' ((first
    | (refine iAL ?_; first | refine AL.any ?_ | refine AL.any (h := POp.k Tryz.func178 (hc := cloneP_r l hl)) ?_ | refine AL.any (h := POp.k Tryz.func182 (hc := isRing_i _ (by assumption))) ?_ | refine AL.any (h := POp.k Tryz.func328 (hc := without_r l i hl hil (by omega))) ?_ | refine AL.F ?_ | refine AL.T ?_ | refine AL.T (h := POp.k Tryz.func128 (hc := cmp_v _ _)) ?_ | refine AL.T (h := POp.k Tryz.func145 (hc := inr_v _ _ _)) ?_ | refine AL.T (h := POp.k Tryz.func329 (hc := by first | exact twice_i l hl | exact twice_i (drp l i) hl2)) ?_ | refine AL.nil ?_)
    | (refine iAW ?_; first | (refine AW.c0 ?_; constructor) | refine AW.cT ?_ | refine AW.cF ?_)) <;> (try dsimp only))
  all_goals exact Fin.two rfl (RV.tmp (by rfl)) (RV.tmp (by rfl)) (Clo.tup (clo_cons (clo_list TPoint.clo_en) (clo_cons (clo_c _) clo_nil))) ⟨by rw [hpl, hpk], rfl⟩

theorem size_s (x : TFeature) (i : Nat) (hg : x.gd) : VCalls Tryz.prog 269 [.agg x.en, I (i : Int)] (fun r M => r = I (sizeA x i) ∧ M = []) := by
  refine VB Tryz.func269 17 (fun E hE => ?_)
  have hclP : Clo (.ro 2 (x.points.map TPoint.en)) := clo_list TPoint.clo_en
  have hcle : Clo (.agg x.en) := Clo.agg x.clo_en
  have hl := hg.1
  have hsx : x.sm := hg.1
  dsimp only [TFeature.en]
  rcases kd_cases x with h1 | ⟨h1, h2⟩ | ⟨h1, h2⟩
  repeat' ((first
    | (refine iAL ?_; first | refine AL.any ?_ | refine AL.any (h := POp.k Tryz.func303 (hc := crnA_s _ _ (by assumption))) ?_ | refine AL.any (h := POp.k Tryz.func304 (hc := crnS_s _ _ (by assumption))) ?_ | refine AL.nil ?_)
    | (refine iAW ?_; first | (refine AW.c0 ?_; constructor) | refine AW.cT ?_ | refine AW.cF ?_)) <;> (try dsimp only))
  all_goals exact Fin.one rfl (RV.tmp (by rfl)) (clo_c _) ⟨by first | (rw [sizeA, if_pos h1]) | (rw [sizeA, if_neg (by rw [h1]; decide), if_pos h2]) | (rw [sizeA, if_neg (by rw [h1]; decide), if_neg (by rw [h2]; decide)]), rfl⟩

theorem df_s (x : TFeature) (i : Nat) (hg : x.gd) : VCalls Tryz.prog 271 [.agg x.en, I (i : Int)] (fun r M => r = .tup [.agg (dfF x i).en, B (dfOk x i)] ∧ M = []) := by
  refine VB Tryz.func271 40 (fun E hE => ?_)
  have hclP : Clo (.ro 2 (x.points.map TPoint.en)) := clo_list TPoint.clo_en
  have hcle : Clo (.agg x.en) := Clo.agg x.clo_en
  have hl := hg.1
  have hsx : x.sm := hg.1
  have hg2 : TFeature.gd ⟨x.id, x.kind, x.rank, x.name, dpL x.points i⟩ := ⟨Nat.le_trans (dpL_len _ _) hg.1, hg.2⟩
  have hg3 : TFeature.gd ⟨x.id, x.kind, x.rank, x.name, dcL x.points i⟩ := ⟨Nat.le_trans (dcL_len _ _) hg.1, hg.2⟩
  have hc2 : Clo (.ro 2 ((dpL x.points i).map TPoint.en)) := clo_list TPoint.clo_en
  have hc3 : Clo (.ro 2 ((dcL x.points i).map TPoint.en)) := clo_list TPoint.clo_en
  have hce2 : Clo (.agg (TFeature.en ⟨x.id, x.kind, x.rank, x.name, dpL x.points i⟩)) := Clo.agg (TFeature.clo_en _)
  have hce3 : Clo (.agg (TFeature.en ⟨x.id, x.kind, x.rank, x.name, dcL x.points i⟩)) := Clo.agg (TFeature.clo_en _)
  have hct2 : Clo (.tup [.ro 2 ((dpL x.points i).map TPoint.en), B (dpOk x.points i)]) := Clo.tup (clo_cons hc2 (clo_cons (clo_c _) clo_nil))
  have hct3 : Clo (.tup [.ro 2 ((dcL x.points i).map TPoint.en), B (dcOk x.points i)]) := Clo.tup (clo_cons hc3 (clo_cons (clo_c _) clo_nil))
  rcases df_cases x i with ⟨k2, ho, hdf, hok⟩ | ⟨k2, ho, hf, hdf, hok⟩ | ⟨k2, ho, hf, hdf, hok⟩ | ⟨k2, k3, ho, hdf, hok⟩ | ⟨k2, k3, ho, hf, hdf, hok⟩ | ⟨k2, k3, ho, hf, hdf, hok⟩ | ⟨k2, k3, hdf, hok⟩
  all_goals dsimp only [TFeature.en] at *
  repeat' ((first
    | (refine iAL ?_; first | refine AL.any ?_ | refine AL.any (h := POp.k Tryz.func108 (hc := cloneF_s' x hsx)) ?_ | refine AL.any (h := POp.k Tryz.func305 (hc := dp_s x.points i hl)) ?_ | refine AL.any (h := POp.k Tryz.func306 (hc := dc_s x.points i hl)) ?_ | refine AL.F ?_ | refine AL.T ?_ | refine AL.T (h := POp.k Tryz.func109 (hc := by first | exact isFeat_s ⟨x.id, x.kind, x.rank, x.name, dpL x.points i⟩ hg2 | exact isFeat_s ⟨x.id, x.kind, x.rank, x.name, dcL x.points i⟩ hg3)) ?_ | refine AL.nil ?_)
    | (refine iAW ?_; first | (refine AW.c0 ?_; constructor) | refine AW.cT ?_ | refine AW.cF ?_)) <;> (try dsimp only))
  all_goals exact Fin.two rfl (RV.cell (QOp.quietA TT_ok (by rfl))) (RV.tmp (by rfl)) (Clo.tup (clo_cons (Clo.agg (by repeat' (first | exact clo_nil | refine clo_cons ?_ ?_ | exact clo_c _ | assumption))) (clo_cons (clo_c _) clo_nil))) ⟨by rw [hdf, hok] <;> rfl, rfl⟩

theorem size_i (x : TFeature) (i : Nat) (hg : x.gd) : VCalls Tryz.prog 275 [.agg x.en, I (i : Int)] (fun r M => r = I (sizeA x i) ∧ M = []) := by
  refine VB Tryz.func275 17 (fun E hE => ?_)
  have hclP : Clo (.ro 2 (x.points.map TPoint.en)) := clo_list TPoint.clo_en
  have hcle : Clo (.agg x.en) := Clo.agg x.clo_en
  have hl := hg.1
  have hsx : x.sm := hg.1
  dsimp only [TFeature.en]
  rcases kd_cases x with h1 | ⟨h1, h2⟩ | ⟨h1, h2⟩
  repeat' ((first
    | (refine iAL ?_; first | refine AL.any ?_ | refine AL.any (h := POp.k Tryz.func307 (hc := crnA_i _ _ (by assumption))) ?_ | refine AL.any (h := POp.k Tryz.func308 (hc := crnS_i _ _ (by assumption))) ?_ | refine AL.nil ?_)
    | (refine iAW ?_; first | (refine AW.c0 ?_; constructor) | refine AW.cT ?_ | refine AW.cF ?_)) <;> (try dsimp only))
  all_goals exact Fin.one rfl (RV.tmp (by rfl)) (clo_c _) ⟨by first | (rw [sizeA, if_pos h1]) | (rw [sizeA, if_neg (by rw [h1]; decide), if_pos h2]) | (rw [sizeA, if_neg (by rw [h1]; decide), if_neg (by rw [h2]; decide)]), rfl⟩

theorem df_i (x : TFeature) (i : Nat) (hg : x.gd) : VCalls Tryz.prog 277 [.agg x.en, I (i : Int)] (fun r M => r = .tup [.agg (dfF x i).en, B (dfOk x i)] ∧ M = []) := by
  refine VB Tryz.func277 40 (fun E hE => ?_)
  have hclP : Clo (.ro 2 (x.points.map TPoint.en)) := clo_list TPoint.clo_en
  have hcle : Clo (.agg x.en) := Clo.agg x.clo_en
  have hl := hg.1
  have hsx : x.sm := hg.1
  have hg2 : TFeature.gd ⟨x.id, x.kind, x.rank, x.name, dpL x.points i⟩ := ⟨Nat.le_trans (dpL_len _ _) hg.1, hg.2⟩
  have hg3 : TFeature.gd ⟨x.id, x.kind, x.rank, x.name, dcL x.points i⟩ := ⟨Nat.le_trans (dcL_len _ _) hg.1, hg.2⟩
  have hc2 : Clo (.ro 2 ((dpL x.points i).map TPoint.en)) := clo_list TPoint.clo_en
  have hc3 : Clo (.ro 2 ((dcL x.points i).map TPoint.en)) := clo_list TPoint.clo_en
  have hce2 : Clo (.agg (TFeature.en ⟨x.id, x.kind, x.rank, x.name, dpL x.points i⟩)) := Clo.agg (TFeature.clo_en _)
  have hce3 : Clo (.agg (TFeature.en ⟨x.id, x.kind, x.rank, x.name, dcL x.points i⟩)) := Clo.agg (TFeature.clo_en _)
  have hct2 : Clo (.tup [.ro 2 ((dpL x.points i).map TPoint.en), B (dpOk x.points i)]) := Clo.tup (clo_cons hc2 (clo_cons (clo_c _) clo_nil))
  have hct3 : Clo (.tup [.ro 2 ((dcL x.points i).map TPoint.en), B (dcOk x.points i)]) := Clo.tup (clo_cons hc3 (clo_cons (clo_c _) clo_nil))
  rcases df_cases x i with ⟨k2, ho, hdf, hok⟩ | ⟨k2, ho, hf, hdf, hok⟩ | ⟨k2, ho, hf, hdf, hok⟩ | ⟨k2, k3, ho, hdf, hok⟩ | ⟨k2, k3, ho, hf, hdf, hok⟩ | ⟨k2, k3, ho, hf, hdf, hok⟩ | ⟨k2, k3, hdf, hok⟩
  all_goals dsimp only [TFeature.en] at *
  repeat' ((first
    | (refine iAL ?_; first | refine AL.any ?_ | refine AL.any (h := POp.k Tryz.func118 (hc := cloneF' x hsx)) ?_ | refine AL.any (h := POp.k Tryz.func309 (hc := dp_i x.points i hl)) ?_ | refine AL.any (h := POp.k Tryz.func310 (hc := dc_i x.points i hl)) ?_ | refine AL.F ?_ | refine AL.T ?_ | refine AL.T (h := POp.k Tryz.func119 (hc := by first | exact isFeat_i ⟨x.id, x.kind, x.rank, x.name, dpL x.points i⟩ hg2 | exact isFeat_i ⟨x.id, x.kind, x.rank, x.name, dcL x.points i⟩ hg3)) ?_ | refine AL.nil ?_)
    | (refine iAW ?_; first | (refine AW.c0 ?_; constructor) | refine AW.cT ?_ | refine AW.cF ?_)) <;> (try dsimp only))
  all_goals exact Fin.two rfl (RV.cell (QOp.quietA TT_ok (by rfl))) (RV.tmp (by rfl)) (Clo.tup (clo_cons (Clo.agg (by repeat' (first | exact clo_nil | refine clo_cons ?_ ?_ | exact clo_c _ | assumption))) (clo_cons (clo_c _) clo_nil))) ⟨by rw [hdf, hok] <;> rfl, rfl⟩

theorem meetF_s (a b : TFeature) (ga : a.gd) (gb : b.gd) : VCalls Tryz.prog 150 [.agg a.en, .agg b.en] (fun r M => r = I (meetF a b) ∧ M = []) := by
  refine VB Tryz.func150 36 (fun E hE => ?_)
  have a1 := True.intro
  have hclA : Clo (.ro 4 (((partsOf a)).map TSegment.en)) := clo_list TSegment.clo_en
  have hclB : Clo (.ro 4 (((partsOf b)).map TSegment.en)) := clo_list TSegment.clo_en
  have hcla : Clo (.agg a.en) := Clo.agg a.clo_en
  have hclb : Clo (.agg b.en) := Clo.agg b.clo_en
  have hla := partsOf_le a
  have hlb := partsOf_le b
  repeat' ((first
    | (refine iAL ?_; first | refine AL.any ?_ | refine AL.any (h := POp.k Tryz.func110 (hc := by first | exact parts_s a ga | exact parts_s b gb)) ?_ | refine AL.any (h := POp.k Tryz.func222 (hc := max_s _ _)) ?_ | refine AL.nil ?_)
    | ((with_reducible show DL ..); first | refine DL.any ?_ | refine DL.any (h := POp.k Tryz.func223 (hc := meet_s s y)) ?_ | refine DL.nil ?_)
    | (refine iAW ?_; first | (refine AW.c0 ?_; constructor) | refine AW.dr (id := 10) 10 ?_ | refine AW.cT ?_ | refine AW.cF ?_)
    | (
  have _ := a1
  clear a1
  refine AW.loopD hE (fun s_ : Nat => [.any, .any, .any, .any, .any, I (mtTo (partsOf a) (partsOf b) s_), .ro 4 (((partsOf a)).map TSegment.en), .ro 4 (((partsOf b)).map TSegment.en), I (s_ : Int), .any, .any, .any, .any, .any, .any, .any, .any, .any, .any, .any, .any, .any, .any, .any, .any, .any, .any, .any, .any, .any, .any, .any, .any, .any, .any, .any, .any, .any]) (fun s_ => [some ⟨81, 5, 0, true, [a.en]⟩, some ⟨81, 5, 0, true, [b.en]⟩]) (fun s_ => (partsOf a).length - s_) (fun s_ => s_ ≤ (partsOf a).length) 0 (Nat.zero_le _) ?_ (by first | rfl | (rfl)) ?_
  (focus (exact wkI))
  rintro i hJ
  try dsimp only at hJ
  try dsimp only
  by_cases hlt : i < (partsOf a).length
  case' pos =>
    have a2 := True.intro
    obtain ⟨s, hs⟩ := getD_some (l := (partsOf a)) (i := i) hlt
    have hg := map_get (f := TSegment.en) hs
    have ht := lt_true (f := TSegment.en) hlt
    have hn := next_ix hlt (by omega)
    have hss := mtTo_succ (T := (partsOf b)) hs
    have hcs : Clo (.agg s.en) := Clo.agg s.clo_en
  case' neg =>
    have q1 := True.intro
    have ht := lt_false (f := TSegment.en) hlt
    have ei : i = (partsOf a).length := by omega
    rw [ei]
    clear ei)
    | (
  have _ := a2
  clear a2
  refine AW.loopD hE (fun s_ : Nat => [.any, .any, .any, .any, .any, I (mrTo s (partsOf b) (mtTo (partsOf a) (partsOf b) i) s_), .ro 4 (((partsOf a)).map TSegment.en), .ro 4 (((partsOf b)).map TSegment.en), I (i : Int), I (s_ : Int), .any, .any, .any, .any, .any, .any, .any, .any, .any, .any, .any, .any, .any, .any, .any, .any, .any, .any, .any, .any, .any, .any, .any, .any, .any, .any, .any, .any]) (fun s_ => [some ⟨81, 5, 0, true, [a.en]⟩, some ⟨81, 5, 0, true, [b.en]⟩]) (fun s_ => (partsOf b).length - s_) (fun s_ => s_ ≤ (partsOf b).length) 0 (Nat.zero_le _) ?_ (by first | rfl | (rfl)) ?_
  (focus (exact wkI))
  rintro k hJ
  try dsimp only at hJ
  try dsimp only
  by_cases hlt : k < (partsOf b).length
  case' pos =>
    have p2 := True.intro
    obtain ⟨y, hy⟩ := getD_some (l := (partsOf b)) (i := k) hlt
    have hgy := map_get (f := TSegment.en) hy
    have hty := lt_true (f := TSegment.en) hlt
    have hny := next_ix hlt (by omega)
    have hsy := mrTo_succ (s := s) (n := mtTo (partsOf a) (partsOf b) i) hy
    have hcy : Clo (.agg y.en) := Clo.agg y.clo_en
  case' neg =>
    have q2 := True.intro
    have hty := lt_false (f := TSegment.en) hlt
    have ek : k = (partsOf b).length := by omega
    rw [ek]
    clear ek)) <;> (try dsimp only))
  all_goals first
    | (have _ := p2; refine ⟨k + 1, _, hlt, by omega, ?_, rfl, ?_, ?_⟩; (focus ((refine wkj ?_; repeat' with_reducible constructor) <;> first | rfl | (rw [hsy] <;> first | rfl | (unfold wmax; rfl)) | (rw [hny]; done))); (focus (exact fitsA)); (focus (exact fitsM_cons (clo_one a.clo_en) (fitsM_cons (clo_one b.clo_en) (FitsM.nil _)))))
    | (have _ := q2; refine ⟨i + 1, _, (by assumption), by omega, ?_, rfl, ?_, ?_⟩; (focus ((refine wkj ?_; repeat' with_reducible constructor) <;> first | rfl | (rw [hss]; done) | (rw [hn]; done))); (focus (exact fitsA)); (focus (exact fitsM_cons (clo_one a.clo_en) (fitsM_cons (clo_one b.clo_en) (FitsM.nil _)))))
    | (have _ := q1; exact Fin.one rfl (RV.tmp (by rfl)) (clo_c _) ⟨by rw [mt_all], rfl⟩)

theorem great_i (S1 S2 : List TSegment) (h1 : S1.length ≤ 1048576) (h2 : S2.length ≤ 1048576) : VCalls Tryz.prog 224 [.ro 4 ((S1).map TSegment.en), .ro 4 ((S2).map TSegment.en)] (fun r M => r = I (mtTo S1 S2 S1.length) ∧ M = []) := by
  refine VB Tryz.func224 28 (fun E hE => ?_)
  have a1 := True.intro
  have hclA : Clo (.ro 4 ((S1).map TSegment.en)) := clo_list TSegment.clo_en
  have hclB : Clo (.ro 4 ((S2).map TSegment.en)) := clo_list TSegment.clo_en
  repeat' ((first
    | (refine iAL ?_; first | refine AL.any ?_ | refine AL.any (h := POp.k Tryz.func247 (hc := meet_i s y)) ?_ | refine AL.nil ?_)
    | (refine iAW ?_; first | (refine AW.c0 ?_; constructor) | refine AW.cT ?_ | refine AW.cF ?_)
    | (
  have _ := a1
  clear a1
  refine AW.loopD hE (fun s_ : Nat => [.any, .ro 4 ((S2).map TSegment.en), .any, .any, .any, I (mtTo S1 S2 s_), .any, .any, .any, .any, .ro 4 ((S1).map TSegment.en), I ((S1.map TSegment.en).length : Int), I (s_ : Int), .any, .any, .any, .any, .any, .any, .any, .any, .any, .any, .any, .any, .any, .any, .any, .any, .any]) (fun s_ => []) (fun s_ => S1.length - s_) (fun s_ => s_ ≤ S1.length) 0 (Nat.zero_le _) ?_ (by first | rfl | (rfl)) ?_
  (focus (exact wkI))
  rintro i hJ
  try dsimp only at hJ
  try dsimp only
  by_cases hlt : i < S1.length
  case' pos =>
    have a2 := True.intro
    obtain ⟨s, hs⟩ := getD_some (l := S1) (i := i) hlt
    have hg := map_get (f := TSegment.en) hs
    have ht := lt_true (f := TSegment.en) hlt
    have hn := next_ix hlt (by omega)
    have hss := mtTo_succ (T := S2) hs
    have hcs : Clo (.agg s.en) := Clo.agg s.clo_en
  case' neg =>
    have q1 := True.intro
    have ht := lt_false (f := TSegment.en) hlt
    obtain rfl : i = S1.length := by omega)
    | (
  have _ := a2
  clear a2
  refine AW.loopD hE (fun s_ : Nat => [.any, .ro 4 ((S2).map TSegment.en), .any, .any, .any, I (mrTo s S2 (mtTo S1 S2 i) s_), .any, .ref 0 0 4 0 0, .any, .any, .ro 4 ((S1).map TSegment.en), I ((S1.map TSegment.en).length : Int), I (i : Int), .any, .any, .any, .ro 4 ((S2).map TSegment.en), I ((S2.map TSegment.en).length : Int), I (s_ : Int), .any, .any, .any, .any, .any, .any, .any, .any, .any, .any, .any]) (fun s_ => [some ⟨200, 4, 0, true, [s.en]⟩]) (fun s_ => S2.length - s_) (fun s_ => s_ ≤ S2.length) 0 (Nat.zero_le _) ?_ (by first | rfl | (rfl)) ?_
  (focus (exact wkI))
  rintro k hJ
  try dsimp only at hJ
  try dsimp only
  by_cases hlt : k < S2.length
  case' pos =>
    have p2 := True.intro
    obtain ⟨y, hy⟩ := getD_some (l := S2) (i := k) hlt
    have hgy := map_get (f := TSegment.en) hy
    have hty := lt_true (f := TSegment.en) hlt
    have hny := next_ix hlt (by omega)
    have hsy := mrTo_succ (s := s) (n := mtTo S1 S2 i) hy
    have hcy : Clo (.agg y.en) := Clo.agg y.clo_en
  case' neg =>
    have q2 := True.intro
    have hty := lt_false (f := TSegment.en) hlt
    have ek : k = S2.length := by omega
    rw [ek]
    clear ek)) <;> (try dsimp only))
  all_goals first
    | (have _ := p2; refine ⟨k + 1, _, hlt, by omega, ?_, rfl, ?_, ?_⟩; (focus ((refine wkj ?_; repeat' with_reducible constructor) <;> first | rfl | (rw [hsy] <;> first | rfl | (unfold wmax; rfl)) | (rw [hny]; done))); (focus (exact fitsA)); (focus (exact fitsM_cons (clo_one s.clo_en) (FitsM.nil _))))
    | (have _ := q2; refine ⟨i + 1, _, (by assumption), by omega, ?_, rfl, ?_, ?_⟩; (focus ((refine wkj ?_; repeat' with_reducible constructor) <;> first | rfl | (rw [hss]; done) | (rw [hn]; done))); (focus (exact fitsA)); (focus (exact FitsM.nil _)))
    | (have _ := q1; exact Fin.one rfl (RV.tmp (by rfl)) (clo_c _) ⟨rfl, rfl⟩)

theorem meetF_i (a b : TFeature) (ga : a.gd) (gb : b.gd) : VCalls Tryz.prog 151 [.agg a.en, .agg b.en] (fun r M => r = I (meetF a b) ∧ M = []) := by
  refine VB Tryz.func151 8 (fun E hE => ?_)
  have hclA : Clo (.ro 4 (((partsOf a)).map TSegment.en)) := clo_list TSegment.clo_en
  have hclB : Clo (.ro 4 (((partsOf b)).map TSegment.en)) := clo_list TSegment.clo_en
  have hcla : Clo (.agg a.en) := Clo.agg a.clo_en
  have hclb : Clo (.agg b.en) := Clo.agg b.clo_en
  have hla := partsOf_le a
  have hlb := partsOf_le b
  repeat' ((first
    | (refine iAL ?_; first | refine AL.any ?_ | refine AL.any (h := POp.k Tryz.func184 (hc := by first | exact parts_i a ga | exact parts_i b gb)) ?_ | refine AL.any (h := POp.k Tryz.func224 (hc := great_i (partsOf a) (partsOf b) (by omega) (by omega))) ?_ | refine AL.nil ?_)
    | ((with_reducible show DL ..); first | refine DL.any ?_ | refine DL.any (h := POp.k Tryz.func184 (hc := by first | exact parts_i a ga | exact parts_i b gb)) ?_ | refine DL.nil ?_)
    | (refine iAW ?_; first | (refine AW.c0 ?_; constructor) | refine AW.dr (id := 1) 3 ?_)) <;> (try dsimp only))
  all_goals exact Fin.one rfl (RV.tmp (by rfl)) (clo_c _) ⟨by rw [← mt_all], rfl⟩

theorem can_s (x : TFeature) (j : Nat) (os : List TFeature) (hgx : x.gd) (hos : os.length ≤ 1048576) (hgo : ∀ o ∈ os, o.gd) : VCalls Tryz.prog 270 [.agg x.en, I (j : Int), .ro 5 (os.map TFeature.en)] (fun r M => r = B (canS x j os) ∧ M = []) := by
  refine VB Tryz.func270 36 (fun E hE => ?_)
  have a1 := True.intro
  have hclo : Clo (.ro 5 (os.map TFeature.en)) := clo_list TFeature.clo_en
  have hcle : Clo (.agg x.en) := Clo.agg x.clo_en
  have hcld : Clo (.agg (dfF x j).en) := Clo.agg (TFeature.clo_en _)
  have hgd := dfF_gd hgx j
  have hctd : Clo (.tup [.agg (dfF x j).en, B (dfOk x j)]) := Clo.tup (clo_cons hcld (clo_cons (clo_c _) clo_nil))
  repeat' ((first
    | (refine iAL ?_; first | refine AL.any ?_ | refine AL.any (h := POp.k Tryz.func150 (hc := by first | exact meetF_s (dfF x j) o hgd hgo1 | exact meetF_s x o hgx hgo1)) ?_ | refine AL.any (h := POp.k Tryz.func271 (hc := df_s x j hgx)) ?_ | refine AL.F ?_ | refine AL.T ?_ | refine AL.nil ?_)
    | ((with_reducible show DL ..); first | refine DL.any ?_ | refine DL.any (h := POp.k Tryz.func150 (hc := by first | exact meetF_s (dfF x j) o hgd hgo1 | exact meetF_s x o hgx hgo1)) ?_ | refine DL.nil ?_)
    | (refine iAW ?_; first | (refine AW.c0 ?_; constructor) | refine AW.dr (id := 5) 11 ?_ | refine AW.cT ?_ | refine AW.cF ?_)
    | (
  have _ := a1
  clear a1
  refine AW.loopD hE (fun s_ : Nat => [.any, .any, .ro 5 (os.map TFeature.en), .ref 0 0 5 0 0, .any, .any, .any, .ref 1 0 5 0 0, B (canTo x j os s_), I (s_ : Int), .any, .any, .any, .any, .any, .any, .any, .any, .any, .any, .any, .any, .any, .any, .any, .any, .any, .any, .any, .any, .any, .any, .any, .any, .any, .any, .any, .any, .any]) (fun s_ => [some ⟨81, 5, 0, true, [x.en]⟩, some ⟨81, 5, 0, true, [(dfF x j).en]⟩]) (fun s_ => os.length - s_) (fun s_ => s_ ≤ os.length) 0 (Nat.zero_le _) ?_ (by first | rfl | (rfl)) ?_
  (focus ((refine wkj ?_; repeat' with_reducible constructor) <;> first | rfl | (simp [canTo])))
  rintro k hJ
  try dsimp only at hJ
  try dsimp only
  by_cases hlt : k < os.length ∧ canTo x j os k = true
  case' pos =>
    have p1 := True.intro
    obtain ⟨hk, hok⟩ := hlt
    obtain ⟨o, ho⟩ := getD_some (l := os) (i := k) hk
    have hgg := map_get (f := TFeature.en) ho
    have ht := lt_true (f := TFeature.en) hk
    have hn := next_ix hk (by omega)
    have hgo1 := hgo o (List.mem_of_getElem? ho)
    have hclo1 : Clo (.agg o.en) := Clo.agg o.clo_en
    have hat := canTo_succ ho hok
  case' neg =>
    have q1 := True.intro
    by_cases hk : k < os.length
    case' pos =>
      have ht := lt_true (f := TFeature.en) hk
      have hok : canTo x j os k = false := by
        cases hc : canTo x j os k
        · rfl
        · exact absurd ⟨hk, hc⟩ hlt
      have hres := canTo_end (.inl hok)
    case' neg =>
      have ht := lt_false (f := TFeature.en) hk
      have hres := canTo_end (x := x) (j := j) (show canTo x j os k = false ∨ k = os.length from .inr (by omega)))) <;> (try dsimp only))
  all_goals first
    | (have _ := p1; refine ⟨k + 1, _, (by assumption), by omega, ?_, rfl, ?_, ?_⟩; (focus (exact wkH)); (focus (exact fitsA)); (focus (exact fitsM_cons (clo_one x.clo_en) (fitsM_cons (clo_one (TFeature.clo_en _)) (FitsM.nil _)))))
    | (have _ := q1; exact Fin.one rfl (RV.tmp (by rfl)) (clo_c _) ⟨by rw [hres], rfl⟩)

theorem can_i (x : TFeature) (j : Nat) (os : List TFeature) (hgx : x.gd) (hos : os.length ≤ 1048576) (hgo : ∀ o ∈ os, o.gd) : VCalls Tryz.prog 276 [.agg x.en, I (j : Int), .ro 5 (os.map TFeature.en)] (fun r M => r = B (canS x j os) ∧ M = []) := by
  refine VB Tryz.func276 30 (fun E hE => ?_)
  have hclo : Clo (.ro 5 (os.map TFeature.en)) := clo_list TFeature.clo_en
  have hcle : Clo (.agg x.en) := Clo.agg x.clo_en
  have hcld : Clo (.agg (dfF x j).en) := Clo.agg (TFeature.clo_en _)
  have hgd := dfF_gd hgx j
  have hctd : Clo (.tup [.agg (dfF x j).en, B (dfOk x j)]) := Clo.tup (clo_cons hcld (clo_cons (clo_c _) clo_nil))
  rcases Bool.eq_false_or_eq_true (dfOk x j) with hdk | hdk
  repeat' ((first
    | (refine iAL ?_; first | refine AL.any ?_ | refine AL.any (h := POp.k Tryz.func151 (hc := by first | exact meetF_i (dfF x j) o hgd hgo1 | exact meetF_i x o hgx hgo1)) ?_ | refine AL.any (h := POp.k Tryz.func277 (hc := df_i x j hgx)) ?_ | refine AL.nil ?_)
    | ((with_reducible show DL ..); first | refine DL.any ?_ | refine DL.any (h := POp.k Tryz.func151 (hc := by first | exact meetF_i (dfF x j) o hgd hgo1 | exact meetF_i x o hgx hgo1)) ?_ | refine DL.nil ?_)
    | (refine iAW ?_; first | (refine AW.c0 ?_; constructor) | refine AW.dr (id := 7) 5 ?_ | refine AW.cT ?_ | refine AW.cF ?_)
    | (
  refine AW.loopD hE (fun i : Nat => [.any, .any, .any, .ref 0 0 5 0 0, .any, .any, .any, .ref 1 0 5 0 0, .any, .any, .any, .any, .any, .any, .any, .any, .any, .any, .any, .ro 5 (os.map TFeature.en), I ((os.map TFeature.en).length : Int), I (i : Int), .any, .any, .any, .any, .any, .any, .any, .any, .any, .any, .any]) (fun i => [some ⟨81, 5, 0, true, [x.en]⟩, some ⟨81, 5, 0, true, [(dfF x j).en]⟩]) (fun i => os.length - i) (fun i => i ≤ os.length ∧ (os.take i).all (canP x j) = true) 0 ⟨Nat.zero_le _, rfl⟩ ?_ (by first | rfl | (simp [fil_zero]; done)) ?_
  (focus (exact wkI))
  intro i hi
  have hi2 := hi.2
  by_cases hlt : i < os.length
  case' pos =>
    have hP := True.intro
    obtain ⟨o, hx⟩ : ∃ x, os[i]? = some x := ⟨_, List.getElem?_eq_getElem hlt⟩
    have hg := map_get (f := TFeature.en) hx
    have ht := lt_true (f := TFeature.en) hlt
    have hn := next_ix hlt (by omega)
    have hgo1 := hgo o (List.mem_of_getElem? hx)
    have hclo1 : Clo (.agg o.en) := Clo.agg o.clo_en
    have hgt : decide (meetF (dfF x j) o > meetF x o) = !canP x j o := by unfold canP; by_cases h : meetF (dfF x j) o ≤ meetF x o <;> simp [h] <;> omega
    rcases Bool.eq_false_or_eq_true (canP x j o) with hcp | hcp
    case' inl => have hjn := (all_take_y (p := canP x j) hx hi2).trans hcp
    all_goals (rw [hcp] at hgt; simp only [Bool.not_true, Bool.not_false] at hgt)
  case' neg =>
    have hQ := True.intro
    have ht := lt_false (f := TFeature.en) hlt
    have e : i = os.length := by omega
    subst e
    try rw [List.take_length])) <;> (try dsimp only))
  all_goals first
    | (have _ := hP; (refine ⟨i + 1, _, ⟨hlt, hjn⟩, by omega, ?_, rfl, ?_, ?_⟩; (focus (exact wkH)); (focus (exact fitsA)); (focus (exact fitsM_cons (clo_one x.clo_en) (fitsM_cons (clo_one (TFeature.clo_en _)) (FitsM.nil _))))))
    | (have _ := hP; exact Fin.one rfl (RV.tmp (by rfl)) (clo_c _) ⟨by rw [canS_no hx hcp], rfl⟩)
    | (have _ := hQ; exact Fin.one rfl (RV.tmp (by rfl)) (clo_c _) ⟨by rw [can_all (by assumption), hi2], rfl⟩)
    | (exact Fin.one rfl (RV.tmp (by rfl)) (clo_c _) ⟨by rw [canS_n (by assumption)], rfl⟩)

theorem isFeatT_s (x : TFeature) (hg : x.gd) (h : isFeat x = true) : VCalls Tryz.prog 109 [.agg x.en] (fun r M => r = B true ∧ M = []) := h ▸ isFeat_s x hg
theorem sizeB_s (x : TFeature) (b : Int) (hb : ∃ k : Nat, b = (k : Int)) (hg : x.gd) : VCalls Tryz.prog 269 [.agg x.en, I b] (fun r M => r = I (sizeA x b.toNat) ∧ M = []) := by
  obtain ⟨k, rfl⟩ := hb
  exact size_s x k hg
theorem dfB_s (x : TFeature) (b : Int) (hb : ∃ k : Nat, b = (k : Int)) (hg : x.gd) : VCalls Tryz.prog 271 [.agg x.en, I b] (fun r M => r = .tup [.agg (dfF x b.toNat).en, B (dfOk x b.toNat)] ∧ M = []) := by
  obtain ⟨k, rfl⟩ := hb
  exact df_s x k hg
theorem shrF_s (f : TFeature) (os : List TFeature) (least : Int) (hgf : f.gd) (hF : isFeat f = true) (hos : os.length ≤ 1048576) (hgo : ∀ o ∈ os, o.gd) : VCalls Tryz.prog 202 [.agg f.en, .ro 5 (os.map TFeature.en), I least] (fun r M => r = .agg (shr os least f).en ∧ M = []) := by
  refine VB Tryz.func202 57 (fun E hE => ?_)
  have a1 := True.intro
  have hclo : Clo (.ro 5 (os.map TFeature.en)) := clo_list TFeature.clo_en
  have hclf : Clo (.agg f.en) := Clo.agg f.clo_en
  have hsf : f.sm := hgf.1
  repeat' ((first
    | (refine iAL ?_; first | refine AL.any ?_ | refine AL.any (h := POp.k Tryz.func108 (hc := cloneF_s' f hsf)) ?_ | refine AL.any (h := POp.k Tryz.func109 (hc := isFeatT_s f hgf hF)) ?_ | refine AL.any (h := POp.k Tryz.func269 (hc := by first | exact size_s out i hgt | exact sizeB_s out (bestTo out os least i) (by assumption) hgt)) ?_ | refine AL.any (h := POp.k Tryz.func271 (hc := dfB_s out (bestTo out os least out.points.length) hbk hgt)) ?_ | refine AL.U ?_ | refine AL.F ?_ | refine AL.T ?_ | refine AL.T (h := POp.k Tryz.func269 (hc := by first | exact size_s out i hgt | exact sizeB_s out (bestTo out os least i) (by assumption) hgt)) ?_ | refine AL.T (h := POp.k Tryz.func270 (hc := can_s out i os hgt hos hgo)) ?_ | refine AL.nil ?_)
    | (refine iAW ?_; first | (refine AW.c0 ?_; constructor) | refine AW.cT ?_ | refine AW.cF ?_)
    | (
  have _ := a1
  clear a1
  refine AW.loopD hE (fun s_ : TFeature => [.any, .ro 5 (os.map TFeature.en), I least, .ref 0 0 5 0 0, .any, .any, .ref 1 0 5 0 0, .ref 2 0 5 0 0, .any, .any, .any, .any, .any, .any, .any, .any, .any, .any, .any, .any, .any, .any, .any, .any, .any, .any, .any, .any, .any, .any, .any, .any, .any, .any, .any, .any, .any, .any, .any, .any, .any, .any, .any, .any, .any, .any, .any, .any, .any, .any, .any, .any, .any, .any, .any, .any, .any, .any, .any, .any]) (fun s_ => [some ⟨81, 5, 0, true, [f.en]⟩, some ⟨81, 5, 0, true, [[.c (.int .i64 0), .c (.int .i64 0), .c (.int .i64 0), .c (.string ⟨#[]⟩), .c (.slice none 0 0)]]⟩, some ⟨81, 5, 0, true, [s_.en]⟩]) (fun s_ => s_.points.length) (fun s_ => s_.gd ∧ shr os least s_ = shr os least f) f ⟨hgf, rfl⟩ ?_ (by first | rfl | (rfl)) ?_
  (focus (exact wkI))
  rintro out hJ
  try dsimp only at hJ
  try dsimp only
  by_cases hlt : True
  case' pos =>
    have a2 := True.intro
    obtain ⟨hgt, hsh⟩ := hJ
    have hol := hgt.1
    have hclt : Clo (.agg out.en) := Clo.agg out.clo_en
    have hclp : Clo (.ro 2 (out.points.map TPoint.en)) := clo_list TPoint.clo_en
  case' neg =>
    have q1 := True.intro
    exact absurd trivial hlt)
    | (
  have _ := a2
  clear a2
  refine AW.loopD hE (fun s_ : Nat => [.any, .ro 5 (os.map TFeature.en), I least, .ref 0 0 5 0 0, .any, .any, .ref 1 0 5 0 0, .ref 2 0 5 0 0, I (bestTo out os least s_), I (s_ : Int), .any, .any, .any, .any, .any, .any, .any, .any, .any, .any, .any, .any, .any, .any, .any, .any, .any, .any, .any, .any, .any, .any, .any, .any, .any, .any, .any, .any, .any, .any, .any, .any, .any, .any, .any, .any, .any, .any, .any, .any, .any, .any, .any, .any, .any, .any, .any, .any, .any, .any]) (fun s_ => [some ⟨81, 5, 0, true, [f.en]⟩, some ⟨81, 5, 0, true, [[.c (.int .i64 0), .c (.int .i64 0), .c (.int .i64 0), .c (.string ⟨#[]⟩), .c (.slice none 0 0)]]⟩, some ⟨81, 5, 0, true, [out.en]⟩]) (fun s_ => out.points.length - s_) (fun s_ => s_ ≤ out.points.length) 0 (Nat.zero_le _) ?_ (by first | rfl | (rfl)) ?_
  (focus (exact wkI))
  rintro i hJ2
  try dsimp only at hJ2
  try dsimp only
  by_cases hlt : i < out.points.length
  case' pos =>
    have p2 := True.intro
    have ht := lt_true (f := TPoint.en) hlt
    have hn := next_ix hlt (by omega)
    rcases pick_cases os least i hol with ⟨g1, g4, hbn⟩ | ⟨g1, g2, hbn⟩ | ⟨g1, g2, g3, g4, hbn⟩ | ⟨g1, g2, g3, g4, hbn⟩ | ⟨g1, g2, g3, hbk, g5, hbn⟩ | ⟨g1, g2, g3, hbk, g5, g4, hbn⟩ | ⟨g1, g2, g3, hbk, g5, g4, hbn⟩
  case' neg =>
    have q2 := True.intro
    have ht := lt_false (f := TPoint.en) hlt
    have ei : i = out.points.length := by omega
    rw [ei]
    rcases best_form out os least out.points.length with hb | ⟨k, _, hb, hck⟩
    case' inl =>
      have hb0 : decide (bestTo out os least out.points.length < 0) = true := by rw [hb]; rfl
      have hres : shr os least f = out := by rw [← hsh, shr_end hb]
    case' inr =>
      have hb0 : decide (bestTo out os least out.points.length < 0) = false := by rw [hb]; simp
      have hbk : ∃ k : Nat, bestTo out os least out.points.length = (k : Int) := ⟨k, hb⟩
      have hst := shr_step hol hb hck
      have hbt : (bestTo out os least out.points.length).toNat = k := by rw [hb]; rfl
      have hcld : Clo (.agg (dfF out (bestTo out os least out.points.length).toNat).en) := Clo.agg (TFeature.clo_en _)
      have hctd : Clo (.tup [.agg (dfF out (bestTo out os least out.points.length).toNat).en, B (dfOk out (bestTo out os least out.points.length).toNat)]) := Clo.tup (clo_cons hcld (clo_cons (clo_c _) clo_nil)))) <;> (try dsimp only))
  all_goals first
    | (have _ := p2; refine ⟨i + 1, _, hlt, by omega, ?_, rfl, ?_, ?_⟩; (focus ((refine wkj ?_; repeat' with_reducible constructor) <;> first | rfl | (rw [hbn]; done) | (rw [hn]; done))); (focus (exact fitsA)); (focus (exact fitsM_cons (clo_one f.clo_en) (fitsM_cons (clo_rows_b rfl) (fitsM_cons (clo_one (TFeature.clo_en _)) (FitsM.nil _))))))
    | (have _ := q2; exact Fin.one rfl (RV.cell (QOp.quietA TT_ok (by rfl))) (Clo.agg (TFeature.clo_en _)) ⟨by rw [hres] <;> rfl, rfl⟩)
    | (have _ := q2; refine ⟨dfF out (bestTo out os least out.points.length).toNat, _, ⟨dfF_gd hgt _, by rw [hbt, ← hst.1, hsh]⟩, by (rw [hbt]; exact hst.2), ?_, rfl, ?_, ?_⟩; (focus (exact wkN)); (focus (exact fitsA)); (focus (exact fitsM_cons (clo_one f.clo_en) (fitsM_cons (clo_rows_b rfl) (fitsM_cons (clo_one (TFeature.clo_en _)) (FitsM.nil _))))))

theorem isFeatT_i (x : TFeature) (hg : x.gd) (h : isFeat x = true) : VCalls Tryz.prog 119 [.agg x.en] (fun r M => r = B true ∧ M = []) := h ▸ isFeat_i x hg
theorem sizeB_i (x : TFeature) (b : Int) (hb : ∃ k : Nat, b = (k : Int)) (hg : x.gd) : VCalls Tryz.prog 275 [.agg x.en, I b] (fun r M => r = I (sizeA x b.toNat) ∧ M = []) := by
  obtain ⟨k, rfl⟩ := hb
  exact size_i x k hg
theorem dfB_i (x : TFeature) (b : Int) (hb : ∃ k : Nat, b = (k : Int)) (hg : x.gd) : VCalls Tryz.prog 277 [.agg x.en, I b] (fun r M => r = .tup [.agg (dfF x b.toNat).en, B (dfOk x b.toNat)] ∧ M = []) := by
  obtain ⟨k, rfl⟩ := hb
  exact df_i x k hg
theorem shrF_i (f : TFeature) (os : List TFeature) (least : Int) (hgf : f.gd) (hF : isFeat f = true) (hos : os.length ≤ 1048576) (hgo : ∀ o ∈ os, o.gd) : VCalls Tryz.prog 210 [.agg f.en, .ro 5 (os.map TFeature.en), I least] (fun r M => r = .agg (shr os least f).en ∧ M = []) := by
  refine VB Tryz.func210 54 (fun E hE => ?_)
  have a1 := True.intro
  have hclo : Clo (.ro 5 (os.map TFeature.en)) := clo_list TFeature.clo_en
  have hclf : Clo (.agg f.en) := Clo.agg f.clo_en
  have hsf : f.sm := hgf.1
  repeat' ((first
    | (refine iAL ?_; first | refine AL.any ?_ | refine AL.any (h := POp.k Tryz.func118 (hc := cloneF' f hsf)) ?_ | refine AL.any (h := POp.k Tryz.func119 (hc := isFeatT_i f hgf hF)) ?_ | refine AL.any (h := POp.k Tryz.func275 (hc := by first | exact size_i out i hgt | exact sizeB_i out (bestTo out os least i) (by assumption) hgt)) ?_ | refine AL.any (h := POp.k Tryz.func277 (hc := dfB_i out (bestTo out os least out.points.length) hbk hgt)) ?_ | refine AL.U ?_ | refine AL.F ?_ | refine AL.T ?_ | refine AL.T (h := POp.k Tryz.func275 (hc := by first | exact size_i out i hgt | exact sizeB_i out (bestTo out os least i) (by assumption) hgt)) ?_ | refine AL.T (h := POp.k Tryz.func276 (hc := can_i out i os hgt hos hgo)) ?_ | refine AL.nil ?_)
    | (refine iAW ?_; first | (refine AW.c0 ?_; constructor) | refine AW.cT ?_ | refine AW.cF ?_)
    | (
  have _ := a1
  clear a1
  refine AW.loopD hE (fun s_ : TFeature => [.any, .ro 5 (os.map TFeature.en), I least, .ref 0 0 5 0 0, .any, .any, .ref 1 0 5 0 0, .ref 2 0 5 0 0, .any, .any, .any, .any, .any, .any, .any, .any, .any, .any, .any, .any, .any, .any, .any, .any, .any, .any, .any, .any, .any, .any, .any, .any, .any, .any, .any, .any, .any, .any, .any, .any, .any, .any, .any, .any, .any, .any, .any, .any, .any, .any, .any, .any, .any, .any, .any, .any, .any]) (fun s_ => [some ⟨81, 5, 0, true, [f.en]⟩, some ⟨81, 5, 0, true, [[.c (.int .i64 0), .c (.int .i64 0), .c (.int .i64 0), .c (.string ⟨#[]⟩), .c (.slice none 0 0)]]⟩, some ⟨81, 5, 0, true, [s_.en]⟩]) (fun s_ => s_.points.length) (fun s_ => s_.gd ∧ shr os least s_ = shr os least f) f ⟨hgf, rfl⟩ ?_ (by first | rfl | (rfl)) ?_
  (focus (exact wkI))
  rintro out hJ
  try dsimp only at hJ
  try dsimp only
  by_cases hlt : True
  case' pos =>
    have a2 := True.intro
    obtain ⟨hgt, hsh⟩ := hJ
    have hol := hgt.1
    have hclt : Clo (.agg out.en) := Clo.agg out.clo_en
    have hclp : Clo (.ro 2 (out.points.map TPoint.en)) := clo_list TPoint.clo_en
  case' neg =>
    have q1 := True.intro
    exact absurd trivial hlt)
    | (
  have _ := a2
  clear a2
  refine AW.loopD hE (fun s_ : Nat => [.any, .ro 5 (os.map TFeature.en), I least, .ref 0 0 5 0 0, .any, .any, .ref 1 0 5 0 0, .ref 2 0 5 0 0, I (bestTo out os least s_), .any, .any, .any, .any, .any, .any, .any, .any, .any, .ro 2 (out.points.map TPoint.en), I ((out.points.map TPoint.en).length : Int), I (s_ : Int), .any, .any, .any, .any, .any, .any, .any, .any, .any, .any, .any, .any, .any, .any, .any, .any, .any, .any, .any, .any, .any, .any, .any, .any, .any, .any, .any, .any, .any, .any, .any, .any, .any, .any, .any, .any]) (fun s_ => [some ⟨81, 5, 0, true, [f.en]⟩, some ⟨81, 5, 0, true, [[.c (.int .i64 0), .c (.int .i64 0), .c (.int .i64 0), .c (.string ⟨#[]⟩), .c (.slice none 0 0)]]⟩, some ⟨81, 5, 0, true, [out.en]⟩]) (fun s_ => out.points.length - s_) (fun s_ => s_ ≤ out.points.length) 0 (Nat.zero_le _) ?_ (by first | rfl | (rfl)) ?_
  (focus (exact wkI))
  rintro i hJ2
  try dsimp only at hJ2
  try dsimp only
  by_cases hlt : i < out.points.length
  case' pos =>
    have p2 := True.intro
    have ht := lt_true (f := TPoint.en) hlt
    have hn := next_ix hlt (by omega)
    rcases pick_cases os least i hol with ⟨g1, g4, hbn⟩ | ⟨g1, g2, hbn⟩ | ⟨g1, g2, g3, g4, hbn⟩ | ⟨g1, g2, g3, g4, hbn⟩ | ⟨g1, g2, g3, hbk, g5, hbn⟩ | ⟨g1, g2, g3, hbk, g5, g4, hbn⟩ | ⟨g1, g2, g3, hbk, g5, g4, hbn⟩
    case' inl => rcases Bool.eq_false_or_eq_true (decide (sizeA out i < least)) with g2 | g2
    case' inl.inl => rcases Bool.eq_false_or_eq_true (decide (bestTo out os least i < 0)) with g3 | g3
    case' inl.inl.inr =>
      have hbk : ∃ k : Nat, bestTo out os least i = (k : Int) := by
        rcases best_form out os least i with hb | ⟨k, _, hb, _⟩
        · rw [hb] at g3; cases g3
        · exact ⟨k, hb⟩
      rcases Bool.eq_false_or_eq_true (decide (sizeA out i < sizeA out (bestTo out os least i).toNat)) with g5 | g5
  case' neg =>
    have q2 := True.intro
    have ht := lt_false (f := TPoint.en) hlt
    have ei : i = out.points.length := by omega
    rw [ei]
    rcases best_form out os least out.points.length with hb | ⟨k, _, hb, hck⟩
    case' inl =>
      have hb0 : decide (bestTo out os least out.points.length < 0) = true := by rw [hb]; rfl
      have hres : shr os least f = out := by rw [← hsh, shr_end hb]
    case' inr =>
      have hb0 : decide (bestTo out os least out.points.length < 0) = false := by rw [hb]; simp
      have hbk : ∃ k : Nat, bestTo out os least out.points.length = (k : Int) := ⟨k, hb⟩
      have hst := shr_step hol hb hck
      have hbt : (bestTo out os least out.points.length).toNat = k := by rw [hb]; rfl
      have hcld : Clo (.agg (dfF out (bestTo out os least out.points.length).toNat).en) := Clo.agg (TFeature.clo_en _)
      have hctd : Clo (.tup [.agg (dfF out (bestTo out os least out.points.length).toNat).en, B (dfOk out (bestTo out os least out.points.length).toNat)]) := Clo.tup (clo_cons hcld (clo_cons (clo_c _) clo_nil)))) <;> (try dsimp only))
  all_goals first
    | (have _ := p2; refine ⟨i + 1, _, hlt, by omega, ?_, rfl, ?_, ?_⟩; (focus ((refine wkj ?_; repeat' with_reducible constructor) <;> first | rfl | (rw [hbn]; done) | (rw [hn]; done))); (focus (exact fitsA)); (focus (exact fitsM_cons (clo_one f.clo_en) (fitsM_cons (clo_rows_b rfl) (fitsM_cons (clo_one (TFeature.clo_en _)) (FitsM.nil _))))))
    | (have _ := q2; exact Fin.one rfl (RV.cell (QOp.quietA TT_ok (by rfl))) (Clo.agg (TFeature.clo_en _)) ⟨by rw [hres] <;> rfl, rfl⟩)
    | (have _ := q2; refine ⟨dfF out (bestTo out os least out.points.length).toNat, _, ⟨dfF_gd hgt _, by rw [hbt, ← hst.1, hsh]⟩, by (rw [hbt]; exact hst.2), ?_, rfl, ?_, ?_⟩; (focus (exact wkN)); (focus (exact fitsA)); (focus (exact fitsM_cons (clo_one f.clo_en) (fitsM_cons (clo_rows_b rfl) (fitsM_cons (clo_one (TFeature.clo_en _)) (FitsM.nil _))))))

theorem map_take_cpy {α β : Type} {f : α → β} {l : List α} {i : Nat} {x : α} (h : l[i]? = some x) : (l.take (i + 1)).map f = (l.take i).map f ++ [f x] := by rw [take_succ_of h, List.map_append]; rfl
theorem take_len {α : Type} (l : List α) (i : Nat) : (l.take i).length ≤ i := by rw [List.length_take]; omega
theorem cpS_i (l : List TFeature) (hl : l.length ≤ 1048576) (hp : ∀ x ∈ l, x.sm) : VCalls Tryz.prog 168 [.ro 5 (l.map TFeature.en)] (fun r M => r = .own 0 0 ∧ M = [some ⟨81, 5, 0, false, l.map TFeature.ed⟩]) := by
  refine VB Tryz.func168 19 (fun E hE => ?_)
  have hclo : Clo (.ro 5 (l.map TFeature.en)) := clo_list TFeature.clo_en
  repeat' ((first
    | (refine iAL ?_; first | refine AL.any (h := POp.gh POp.mk (Gh.absorbA (q := 0) (id := 2) (j := 4) rfl rfl rfl rfl rfl rfl (DCl.map (fun _ => rfl)) TPoint.und)) ?_ | refine AL.any ?_ | refine AL.any (h := POp.O Tryz.func118 (hc := cloneF x (by assumption))) ?_ | refine AL.nil ?_)
    | (refine iAW ?_; first | (refine AW.c0 ?_; constructor) | refine AW.cT ?_ | refine AW.cF ?_)
    | (
  refine AW.loopD hE (fun i : Nat => [.any, .any, .any, .own 0 i, .any, .any, .any, .ro 5 (l.map TFeature.en), I ((l.map TFeature.en).length : Int), I (i : Int), .any, .any, .any, .any, .any, .any, .any, .any, .any, .any]) (fun i => [some ⟨81, 5, i, false, (l.take i).map TFeature.ed⟩]) (fun i => l.length - i) (fun i => i ≤ l.length) 0 (by simp) ?_ (by first | rfl | (simp [fil_zero]; done)) ?_
  (focus (exact wkI))
  intro i hi
  by_cases hlt : i < l.length
  case' pos =>
    have hP := True.intro
    obtain ⟨x, hx⟩ : ∃ x, l[i]? = some x := ⟨_, List.getElem?_eq_getElem hlt⟩
    have hg := map_get (f := TFeature.en) hx
    have ht := lt_true (f := TFeature.en) hlt
    have hn := next_ix hlt (by omega)
    have hm := map_take_cpy (f := TFeature.ed) hx
    have hln := take_len l i
    have hcle : Clo (.agg x.en) := Clo.agg x.clo_en
    have hpx := hp x (List.mem_of_getElem? hx)
    have hclP : Clo (.ro 2 (x.points.map TPoint.en)) := clo_list TPoint.clo_en
  case' neg =>
    have hQ := True.intro
    have ht := lt_false (f := TFeature.en) hlt
    have e : i = l.length := by omega
    subst e
    try rw [List.take_length])) <;> (try dsimp only))
  all_goals first
    | (have _ := hP; (refine ⟨i + 1, _, hlt, by omega, ?_, by rw [hm] <;> rfl, ?_, ?_⟩; (focus (exact wkN)); (focus (exact fitsA)); (focus (exact fits_dcl (DCl.map (fun _ => rfl))))))
    | (have _ := hQ; (try simp only [List.take_length]); exact Fin.r1 [0] rfl (RV.tmp (by rfl)) ⟨rfl, rfl⟩)

theorem cpS_s (l : List TFeature) (hl : l.length ≤ 1048576) (hp : ∀ x ∈ l, x.sm) : VCalls Tryz.prog 166 [.ro 5 (l.map TFeature.en)] (fun r M => r = .own 0 0 ∧ M = [some ⟨81, 5, 0, false, l.map TFeature.ed⟩]) := by
  refine VB Tryz.func166 20 (fun E hE => ?_)
  have hclo : Clo (.ro 5 (l.map TFeature.en)) := clo_list TFeature.clo_en
  repeat' ((first
    | (refine iAL ?_; first | refine AL.any (h := POp.gh POp.mk (Gh.absorbA (q := 0) (id := 1) (j := 4) rfl rfl rfl rfl rfl rfl (DCl.map (fun _ => rfl)) TPoint.und)) ?_ | refine AL.any ?_ | refine AL.any (h := POp.O Tryz.func108 (hc := cloneF_s x (by assumption))) ?_ | refine AL.nil ?_)
    | (refine iAW ?_; first | (refine AW.c0 ?_; constructor) | refine AW.cT ?_ | refine AW.cF ?_)
    | (
  refine AW.loopD hE (fun i : Nat => [.ro 5 (l.map TFeature.en), .any, .any, .own 0 i, I (i : Int), .any, .any, .any, .any, .any, .any, .any, .any, .any, .any, .any, .any, .any, .any, .any, .any]) (fun i => [some ⟨81, 5, i, false, (l.take i).map TFeature.ed⟩]) (fun i => l.length - i) (fun i => i ≤ l.length) 0 (by simp) ?_ (by first | rfl | (simp [fil_zero]; done)) ?_
  (focus (exact wkI))
  intro i hi
  by_cases hlt : i < l.length
  case' pos =>
    have hP := True.intro
    obtain ⟨x, hx⟩ : ∃ x, l[i]? = some x := ⟨_, List.getElem?_eq_getElem hlt⟩
    have hg := map_get (f := TFeature.en) hx
    have ht := lt_true (f := TFeature.en) hlt
    have hn := next_ix hlt (by omega)
    have hm := map_take_cpy (f := TFeature.ed) hx
    have hln := take_len l i
    have hcle : Clo (.agg x.en) := Clo.agg x.clo_en
    have hpx := hp x (List.mem_of_getElem? hx)
    have hclP : Clo (.ro 2 (x.points.map TPoint.en)) := clo_list TPoint.clo_en
  case' neg =>
    have hQ := True.intro
    have ht := lt_false (f := TFeature.en) hlt
    have e : i = l.length := by omega
    subst e
    try rw [List.take_length])) <;> (try dsimp only))
  all_goals first
    | (have _ := hP; (refine ⟨i + 1, _, hlt, by omega, ?_, by rw [hm] <;> rfl, ?_, ?_⟩; (focus (exact wkN)); (focus (exact fitsA)); (focus (exact fits_dcl (DCl.map (fun _ => rfl))))))
    | (have _ := hQ; (try simp only [List.take_length]); exact Fin.r1 [0] rfl (RV.tmp (by rfl)) ⟨rfl, rfl⟩)

theorem shAll_i (l : List TFeature) (least : Int) (hl : l.length ≤ 1048576) (hg0 : ∀ x ∈ l, x.gd) : VCalls Tryz.prog 142 [.ro 5 (l.map TFeature.en), I least] (fun r M => r = .ro 5 ((shAll l least).map TFeature.en) ∧ M = []) := by
  refine VB Tryz.func142 39 (fun E hE => ?_)
  have a1 := True.intro
  have hclo : Clo (.ro 5 (l.map TFeature.en)) := clo_list TFeature.clo_en
  have hsm : ∀ x ∈ l, x.sm := fun x hx => (hg0 x hx).1
  rcases Bool.eq_false_or_eq_true (isSource l) with hS | hS
  repeat' ((first
    | (refine iAL ?_; first | refine AL.any (h := POp.append (es := ((skA l least i).drop (i + 1)).map TFeature.en) (by rfl) rwk45 (by rfl) (by rfl) (by rfl) (by rfl) (by rfl) (by rfl) (by rfl) (SrcA.subE (by rfl) (by rfl) (by rfl) (by rfl) (by exact hb2) (by exact rdb_en) (by exact sub_cpyE _ _)) (by simp <;> omega) (by simp [maxLen] <;> omega)) ?_ | refine AL.any ?_ | refine AL.any (h := POp.k Tryz.func80 (hc := isSource_i l hl hg0)) ?_ | refine AL.any (h := POp.O Tryz.func168 (hc := cpS_i _ (by assumption) (by assumption))) ?_ | refine AL.any (h := POp.k Tryz.func210 (hc := shrF_i x (oth (skA l least i) i) least hgx hfx hol hog)) ?_ | refine AL.nil ?_)
    | ((with_reducible show DLR ..); first | refine DLR.any ?_ | refine DLR.row rfl (fun Y => RowRun.empty (by rfl) (by rfl) (by first | exact rwk22 | exact rwk23 | exact rwk24 | exact rwk31 | exact rwk32 | exact rwk33 | exact rwk40 | exact rwk45 | exact rwk79)) rfl rfl ?_ | refine DLR.nil ?_)
    | (refine iAW ?_; first | (rw [hoth]) | (refine AW.ice /-Ret-/ (id := 0) (es2 := l.map TFeature.en) rfl rfl (DCl.map (fun _ => rfl)) TFeature.und ?_) | (refine AW.freeze /-Ret-/ (t := 8) (id := 2) rfl rfl rfl rfl (clo_rows TFeature.clo_en) ?_; try dsimp only [dput, List.set, cond_true, cond_false, Nat.zero_add, Nat.add_zero, Nat.reduceAdd, splice, List.take, List.drop, List.length, List.nil_append, List.cons_append, List.append, TPoint.en, TSegment.en, TBox.en, TFeature.en, TMeet.en, TPlace.en, TCover.en, TLabel.en, TPiece.en, TLevel.en, TChart.en, TReason.en, TEdit.en, TEntry.en, TEdition.en, TListing.en, TAtlas.en, TEvent.en, TWindow.en]) | (refine AW.freeze /-Ret-/ (t := 4) (id := 0) rfl rfl rfl rfl (clo_rows TFeature.clo_en) ?_; try dsimp only [dput, List.set, cond_true, cond_false, Nat.zero_add, Nat.add_zero, Nat.reduceAdd, splice, List.take, List.drop, List.length, List.nil_append, List.cons_append, List.append, TPoint.en, TSegment.en, TBox.en, TFeature.en, TMeet.en, TPlace.en, TCover.en, TLabel.en, TPiece.en, TLevel.en, TChart.en, TReason.en, TEdit.en, TEntry.en, TEdition.en, TListing.en, TAtlas.en, TEvent.en, TWindow.en]) | (refine AW.c0 ?_; constructor) | refine AW.drawnR (id := 7) 9 1 [some 0, none, none, none, some 0, none, none, none, none] [some Rsv] rfl (by kernel_rfl) (by kernel_rfl) (by kernel_rfl) (by rfl) ?_ | refine AW.cT ?_ | refine AW.cF ?_)
    | ((with_reducible show DLR ..); first | refine DLR.any (h := fun Y => POp.quiet (QOp.upto_own (m := i) (by rfl) slk45 (by rfl) (by rfl) (by rfl) (by rfl) (by rfl) (by rfl) (by omega) (by rw [hlm]; omega) (Int.toNat_natCast _))) ?_ | refine DLR.any (h := fun Y => POp.quiet (QOp.from_own (i := i + 1) (m := ((skA l least i).map TFeature.en).length - (i + 1)) (by rfl) slk45 (by rfl) (by rfl) (by rfl) (by rfl) (by rfl) (by rfl) (by rw [w1]; omega) (by rw [w1, hlm]; omega) (by rw [w1]; exact Int.toNat_natCast _) rfl)) ?_ | refine DLR.appendSub rfl (by rfl) rwk45 (by rfl) (by rfl) (by rfl) (by rfl) (by rfl) (by rfl) (by rfl) (by rfl) (by rfl) (by rfl) (by rfl) (by rfl) (by exact hb1) (by exact rdb_en) (by exact sub_cpy0 _ _) (by simp <;> omega) (by simp [maxLen] <;> omega) ?_)
    | (
  have _ := a1
  clear a1
  refine AW.loopD hE (fun s_ : Nat => [.any, I least, .any, .any, .any, .own 0 0, .any, .any, .any, .any, .any, .any, .any, .any, .any, .own 0 0, I ((l.map TFeature.en).length : Int), I (s_ : Int), .any, .any, .any, .any, .any, .any, .any, .any, .any, .any, .any, .any, .any, .any, .any, .any, .any, .any, .any, .any, .any, .any, .any]) (fun s_ => [some ⟨81, 5, 0, false, (skA l least s_).map TFeature.en⟩]) (fun s_ => l.length - s_) (fun s_ => s_ ≤ l.length) 0 (Nat.zero_le _) ?_ (by first | rfl | (rfl)) ?_
  (focus (exact wkI))
  rintro i hJ
  try dsimp only at hJ
  try dsimp only
  by_cases hlt : i < l.length
  case' pos =>
    have p1 := True.intro
    have hls : (skA l least i).length = l.length := skA_len l least i
    obtain ⟨x, hx⟩ := getD_some (l := (skA l least i)) (i := i) (by omega)
    have hg := map_get (f := TFeature.en) hx
    have hgs := skA_gd least hg0 i
    have hfs := skA_feat least ((src_iff l).1 hS).2.1 i
    have hgx := hgs x (List.mem_of_getElem? hx)
    have hfx := hfs x (List.mem_of_getElem? hx)
    have hset := skA_set (least := least) hx
    have hoth := oth_map (skA l least i) i
    have hol : (oth (skA l least i) i).length ≤ 1048576 := Nat.le_trans (oth_len _ _) (by omega)
    have hog : ∀ o ∈ oth (skA l least i) i, o.gd := fun o ho => hgs o (oth_mem ho)
    have hlm : ((skA l least i).map TFeature.en).length = l.length := by rw [List.length_map, hls]
    have hb1 : 0 + i ≤ ((skA l least i).map TFeature.en).length := by omega
    have hb2 : (i + 1) + (((skA l least i).map TFeature.en).length - (i + 1)) ≤ ((skA l least i).map TFeature.en).length := by omega
    have w1 : IntKind.i64.wrap ((i : Int) + 1) = ((i + 1 : Nat) : Int) := by rw [w64 (by omega) (by omega)]; rfl
    have hcle : Clo (.agg x.en) := Clo.agg x.clo_en
    have hclr : Clo (.agg (shr (oth (skA l least i) i) least x).en) := Clo.agg (TFeature.clo_en _)
    have hclo2 : Clo (.ro 5 ((oth (skA l least i) i).map TFeature.en)) := clo_list TFeature.clo_en
    have ht := lt_true (f := TFeature.en) hlt
    have hn := next_ix hlt (by omega)
  case' neg =>
    have q1 := True.intro
    have ht := lt_false (f := TFeature.en) hlt
    obtain rfl : i = l.length := by omega
    have hres := shAll_t (least := least) hS)) <;> (try dsimp only))
  all_goals first
    | (have _ := p1; refine ⟨i + 1, _, hlt, by omega, ?_, by rw [hset] <;> rfl, ?_, ?_⟩; (focus (exact wkH)); (focus (exact fitsA)); (focus (exact fits_row (clo_rows TFeature.clo_en))))
    | (have _ := q1; exact Fin.one rfl (RV.tmp (by rfl)) (clo_list TFeature.clo_en) ⟨by rw [hres], rfl⟩)
    | (have hres := shAll_f (least := least) hS; exact Fin.one rfl (RV.tmp (by rfl)) (clo_list TFeature.clo_en) ⟨by rw [hres], rfl⟩)

theorem shAll_s (l : List TFeature) (least : Int) (hl : l.length ≤ 1048576) (hg0 : ∀ x ∈ l, x.gd) : VCalls Tryz.prog 136 [.ro 5 (l.map TFeature.en), I least] (fun r M => r = .ro 5 ((shAll l least).map TFeature.en) ∧ M = []) := by
  refine VB Tryz.func136 39 (fun E hE => ?_)
  have a1 := True.intro
  have hclo : Clo (.ro 5 (l.map TFeature.en)) := clo_list TFeature.clo_en
  have hsm : ∀ x ∈ l, x.sm := fun x hx => (hg0 x hx).1
  repeat' ((first
    | (refine iAL ?_; first | refine AL.ice (id := 1) (es2 := ((skA l least i).take i).map TFeature.en) rfl rfl (DCl.map (fun _ => rfl)) TFeature.und ?_ | refine AL.ice (id := 2) (es2 := ((skA l least i).drop (i + 1)).map TFeature.en) rfl rfl (DCl.map (fun _ => rfl)) TFeature.und ?_ | refine AL.any ?_ | refine AL.any (h := POp.k Tryz.func202 (hc := shrF_s x (oth (skA l least i) i) least hgx hfx hol hog)) ?_ | refine AL.F ?_ | refine AL.T ?_ | refine AL.T (h := POp.k Tryz.func78 (hc := isSource_s l hl hg0)) ?_ | refine AL.nil ?_)
    | ((with_reducible show DLR ..); first | refine DLR.any ?_ | refine DLR.nil ?_)
    | (refine iAW ?_; first | (rw [hoth]) | (refine AW.ice /-Ret-/ (id := 0) (es2 := l.map TFeature.en) rfl rfl (DCl.map (fun _ => rfl)) TFeature.und ?_) | (refine AW.freeze /-Ret-/ (t := 7) (id := 1) rfl rfl rfl rfl (clo_rows TFeature.clo_en) ?_; try dsimp only [dput, List.set, cond_true, cond_false, Nat.zero_add, Nat.add_zero, Nat.reduceAdd, splice, List.take, List.drop, List.length, List.nil_append, List.cons_append, List.append, TPoint.en, TSegment.en, TBox.en, TFeature.en, TMeet.en, TPlace.en, TCover.en, TLabel.en, TPiece.en, TLevel.en, TChart.en, TReason.en, TEdit.en, TEntry.en, TEdition.en, TListing.en, TAtlas.en, TEvent.en, TWindow.en]) | (refine AW.freeze /-Ret-/ (t := 4) (id := 0) rfl rfl rfl rfl (clo_rows TFeature.clo_en) ?_; try dsimp only [dput, List.set, cond_true, cond_false, Nat.zero_add, Nat.add_zero, Nat.reduceAdd, splice, List.take, List.drop, List.length, List.nil_append, List.cons_append, List.append, TPoint.en, TSegment.en, TBox.en, TFeature.en, TMeet.en, TPlace.en, TCover.en, TLabel.en, TPiece.en, TLevel.en, TChart.en, TReason.en, TEdit.en, TEntry.en, TEdition.en, TListing.en, TAtlas.en, TEvent.en, TWindow.en]) | (refine AW.c0 ?_; constructor) | refine AW.drawnR (id := 5) 8 1 [none, none, none, some 0, none, none, none, none] [some Rsv] rfl (by kernel_rfl) (by kernel_rfl) (by kernel_rfl) (by rfl) ?_ | refine AW.cT ?_ | refine AW.cF ?_)
    | (refine ?_; first | (refine AL.any (h := POp.O Tryz.func166 (hc := cpS_s ((skA l least i).drop (i + 1)) hlt2 hsm2) (hvw := VwL.cons (View.subC (by rfl) (by rfl) (by rfl) (by rfl) (by exact clo_rows TFeature.clo_en) (by exact hb2) (by exact sub_enE _ _)) VwL.nil)) ?_) | (refine AL.any (h := POp.O Tryz.func166 (hc := cpS_s l (by assumption) (by assumption))) ?_))
    | ((with_reducible show DLR ..); first | refine DLR.any (h := fun Y => POp.quiet (QOp.upto_own (m := i) (by rfl) slk45 (by rfl) (by rfl) (by rfl) (by rfl) (by rfl) (by rfl) (by omega) (by rw [hlm]; omega) (Int.toNat_natCast _))) ?_ | refine DLR.any (h := fun Y => POp.quiet (QOp.from_own (i := i + 1) (m := ((skA l least i).map TFeature.en).length - (i + 1)) (by rfl) slk45 (by rfl) (by rfl) (by rfl) (by rfl) (by rfl) (by rfl) (by rw [w1]; omega) (by rw [w1, hlm]; omega) (by rw [w1]; exact Int.toNat_natCast _) rfl)) ?_ | refine DLR.call rfl (by rfl) Tryz.func166 (by rfl) (by rfl) (by rfl) (fun Y => VwL.cons (View.subC (by rfl) (by rfl) (by rfl) (by rfl) (by exact clo_rows TFeature.clo_en) (by first | exact hb1 | exact hb2) (by exact (sub_en0 _ _))) VwL.nil) (cpS_s ((skA l least i).take i) hlt1 hsm1) rfl (DCl.map (fun _ => rfl)) rfl rfl ?_)
    | (
  have _ := a1
  clear a1
  refine AW.loopD hE (fun s_ : Nat => [.ro 5 (l.map TFeature.en), I least, .any, .any, .any, .own 0 0, I (s_ : Int), .any, .any, .any, .any, .any, .any, .any, .any, .any, .any, .any, .any, .any, .any, .any, .any, .any, .any, .any, .any, .any, .any, .any, .any, .any, .any, .any, .any, .any, .any, .any, .any, .any, .any]) (fun s_ => [some ⟨81, 5, 0, false, (skA l least s_).map TFeature.en⟩]) (fun s_ => l.length - s_) (fun s_ => s_ ≤ l.length ∧ (isSource l = true ∨ s_ = 0)) 0 ⟨Nat.zero_le _, .inr rfl⟩ ?_ (by first | rfl | (rfl)) ?_
  (focus (exact wkI))
  rintro i hJ
  try dsimp only at hJ
  try dsimp only
  by_cases hlt : i < l.length ∧ isSource l = true
  case' pos =>
    have p1 := True.intro
    obtain ⟨hlt, hS⟩ := hlt
    have hls : (skA l least i).length = l.length := skA_len l least i
    obtain ⟨x, hx⟩ := getD_some (l := (skA l least i)) (i := i) (by omega)
    have hg := map_get (f := TFeature.en) hx
    have hgs := skA_gd least hg0 i
    have hfs := skA_feat least ((src_iff l).1 hS).2.1 i
    have hgx := hgs x (List.mem_of_getElem? hx)
    have hfx := hfs x (List.mem_of_getElem? hx)
    have hset := skA_set (least := least) hx
    have hoth := oth_map (skA l least i) i
    have hol : (oth (skA l least i) i).length ≤ 1048576 := Nat.le_trans (oth_len _ _) (by omega)
    have hog : ∀ o ∈ oth (skA l least i) i, o.gd := fun o ho => hgs o (oth_mem ho)
    have hlm : ((skA l least i).map TFeature.en).length = l.length := by rw [List.length_map, hls]
    have hb1 : 0 + i ≤ ((skA l least i).map TFeature.en).length := by omega
    have hb2 : (i + 1) + (((skA l least i).map TFeature.en).length - (i + 1)) ≤ ((skA l least i).map TFeature.en).length := by omega
    have w1 : IntKind.i64.wrap ((i : Int) + 1) = ((i + 1 : Nat) : Int) := by rw [w64 (by omega) (by omega)]; rfl
    have hcle : Clo (.agg x.en) := Clo.agg x.clo_en
    have hclr : Clo (.agg (shr (oth (skA l least i) i) least x).en) := Clo.agg (TFeature.clo_en _)
    have hclo2 : Clo (.ro 5 ((oth (skA l least i) i).map TFeature.en)) := clo_list TFeature.clo_en
    have hlt1 : ((skA l least i).take i).length ≤ 1048576 := by rw [List.length_take]; omega
    have hlt2 : ((skA l least i).drop (i + 1)).length ≤ 1048576 := by rw [List.length_drop]; omega
    have hsm1 : ∀ x ∈ (skA l least i).take i, x.sm := fun x hx => (hgs x (List.mem_of_mem_take hx)).1
    have hsm2 : ∀ x ∈ (skA l least i).drop (i + 1), x.sm := fun x hx => (hgs x (List.mem_of_mem_drop hx)).1
    have ht : decide ((i : Int) < (((skA l least i).map TFeature.en).length : Int)) = true := by rw [hlm]; simp; omega
    have hn := w1
  case' neg =>
    have q1 := True.intro
    have hls : (skA l least i).length = l.length := skA_len l least i
    have hlm : ((skA l least i).map TFeature.en).length = l.length := by rw [List.length_map, hls]
    rcases Bool.eq_false_or_eq_true (isSource l) with hS | hS
    case' inl =>
      have ei : i = l.length := by have : ¬ i < l.length := fun hh => hlt ⟨hh, hS⟩; omega
      have ht : decide ((i : Int) < (((skA l least i).map TFeature.en).length : Int)) = false := by rw [hlm]; simp; omega
      have hres : shAll l least = (skA l least i) := by rw [shAll_t hS, ei]
    case' inr =>
      have ei : i = 0 := by rcases hJ.2 with hh | hh; (rw [hh] at hS; cases hS); exact hh
      have hres : shAll l least = (skA l least i) := by rw [shAll_f hS, ei]; rfl
      rcases Bool.eq_false_or_eq_true (decide ((i : Int) < (((skA l least i).map TFeature.en).length : Int))) with ht | ht)) <;> (try dsimp only))
  all_goals first
    | (have _ := p1; refine ⟨i + 1, _, ⟨hlt, .inl hS⟩, by omega, ?_, by rw [hset] <;> rfl, ?_, ?_⟩; (focus (exact wkH)); (focus (exact fitsA)); (focus (exact fits_row (clo_rows TFeature.clo_en))))
    | (have _ := q1; exact Fin.one rfl (RV.tmp (by rfl)) (clo_list TFeature.clo_en) ⟨by rw [hres], rfl⟩)

end Go.Proofs.YtpffahmmklpifaaGreat.Abs

/- Labels sorted by the library's sort. -/
namespace Go.Proofs.YtpffahmmklpifaaGreat.Abs
open Go.Proofs Go.RowKit
set_option linter.unusedVariables false
set_option linter.unusedSimpArgs false
set_option maxRecDepth 100000
set_option maxHeartbeats 2000000
attribute [local irreducible] OpA AL AW DL DLM DLR DLS QOp POp VCalls VCallsI
open Go.Shelf Go.Lib Go.Sort
set_option maxHeartbeats 2000000 in
set_option maxRecDepth 100000 in
theorem cmpL_calls (x y : TLabel) (W : World) : Calls Tryz.prog 216 #[.agg #[.int .i64 x.id, .string x.name, .int .i64 x.box.low.x, .int .i64 x.box.low.y, .int .i64 x.box.high.x, .int .i64 x.box.high.y], .agg #[.int .i64 y.id, .string y.name, .int .i64 y.box.low.x, .int .i64 y.box.low.y, .int .i64 y.box.high.x, .int .i64 y.box.high.y]] W fun e w' => e = .returned (.int .i64 (cmpZ x.id y.id)) ∧ ∃ q os', w' = grow (W.drewN q) os' := by
  have mixed : Tryz.prog.follows .mixedOrders = true := by kernel_rfl
  have hc : ∀ w, Calls Tryz.prog 128 #[.int .i64 x.id, .int .i64 y.id] w fun e w' => e = .returned (.int .i64 (cmpZ x.id y.id)) ∧ w' = w := fun w => Tryz.cmp_Compare_int x.id y.id w
  generalize cmpZ x.id y.id = z at hc
  have eC : ∀ args w, (callFunc 128 args).run Tryz.prog w = .ok (.enter 128 args) w := enters_of Tryz.func128 (by kernel_rfl) rfl
  go_enter Tryz.func216, Tryz.ntmps216
  go_wp2_with (go_at_fn 128; (with_reducible refine (hc _).mono ?_); rintro e w' ⟨rfl, rfl⟩)
  go_ret
  exact ⟨rfl, 0, _, by simp only [alloc_eq_grow, grow_grow, World.drewN_zero]; rfl⟩
theorem cmpL_calls' (x y : TLabel) (a b : Int) (ha : x.id = a) (hb : y.id = b) (W : World) : Calls Tryz.prog 216 #[.agg #[.int .i64 x.id, .string x.name, .int .i64 x.box.low.x, .int .i64 x.box.low.y, .int .i64 x.box.high.x, .int .i64 x.box.high.y], .agg #[.int .i64 y.id, .string y.name, .int .i64 y.box.low.x, .int .i64 y.box.low.y, .int .i64 y.box.high.x, .int .i64 y.box.high.y]] W fun e w' => e = .returned (.int .i64 (cmpZ a b)) ∧ ∃ q os', w' = grow (W.drewN q) os' := by
  subst ha hb
  exact cmpL_calls x y W
abbrev vLb (x : TLabel) : List Value := [.int .i64 x.id, .string x.name, .int .i64 x.box.low.x, .int .i64 x.box.low.y, .int .i64 x.box.high.x, .int .i64 x.box.high.y]
theorem vLb_one (x : TLabel) : ∀ v ∈ vLb x, v.oneCell' = true := fun v hv => by
  simp [vLb] at hv
  rcases hv with rfl | rfl | rfl | rfl | rfl | rfl <;> rfl
theorem ltI_iff (x y : Int) : ltOf cmpZ x y = decide (x < y) := by
  unfold ltOf cmpZ
  repeat' split
  all_goals simp <;> omega
theorem swoI : SWO (ltOf cmpZ) where
  irrefl x := by rw [ltI_iff]; simp
  trans x y z h1 h2 := by rw [ltI_iff] at *; simp at *; omega
  ntrans x y z h1 h2 := by rw [ltI_iff] at *; simp at *; omega
theorem mrg_eq (l : List Int) : (l.mergeSort fun x y => !decide (cmpZ y x < 0)) = l.mergeSort fun x y => decide (x ≤ y) := by
  have e : (fun x y : Int => !decide (cmpZ y x < 0)) = fun x y => decide (x ≤ y) := by
    funext x y
    have := ltI_iff y x
    unfold ltOf at this
    rw [this]
    by_cases h : x ≤ y <;> simp [h] <;> omega
  rw [e]
theorem sort_look (look : Int → TLabel) (hlk : ∀ k, (look k).id = k) (ids : List Int) (hl : ids.length ≤ 1048576) : ACalls Tryz.prog 215 [.own 0 0, .fn 216 []] [some ⟨174, 6, 0, false, ids.map fun k => (look k).en⟩] (fun r M' => r = .c (.tuple #[]) ∧ ∃ Mx, M' = [⟨174, 6, 0, false, (ids.mergeSort fun x y => decide (x ≤ y)).map fun k => (look k).en⟩].map some ++ Mx) :=
  sort_k (fun k => (look k).en) (fun k => vLb (look k)) (fun _ => rfl) (fun _ => rfl) (fun x => vLb_one _) ids (ids.mergeSort fun x y => decide (x ≤ y)) (List.length_mergeSort _) (by omega)
    (fun blk cap w hH hb => by
      have h := AnyQ.slices_SortFunc_total Tryz.laysSortL 6 Tryz.isAgg174 Tryz.sizeOf174 (fun k => vLb (look k)) (fun _ => rfl) (fun x => vLb_one _) cmpZ swoI 216 #[] blk 0 cap ids.toArray w (enters_of Tryz.func216 (by kernel_rfl) rfl) (fun _ _ _ _ x y => cmpL_calls' (look x) (look y) x y (hlk x) (hlk y) _) hH hb (by simp; omega) (fun x y h1 h2 => by
        rw [ltI_iff] at h1 h2
        simp at h1 h2
        omega)
      rw [← mrg_eq]
      exact h)
    (fun p cap fv w => AnyF.slices_SortFunc_none Tryz.laysSortL p cap fv w)
theorem sortL (L : List TLabel) (hd : (L.map (·.id)).Pairwise (· ≠ ·)) (hl : L.length ≤ 1048576) : ACalls Tryz.prog 215 [.own 0 0, .fn 216 []] [some ⟨174, 6, 0, false, L.map TLabel.en⟩] (fun r M' => r = .c (.tuple #[]) ∧ ∃ Mx, M' = [⟨174, 6, 0, false, (srtL L).map TLabel.en⟩].map some ++ Mx) := by
  have h := sort_look (lookL L) (lookL_id L) (L.map (·.id)) (by rw [List.length_map]; exact hl)
  have e1 : ((L.map (·.id)).mergeSort fun x y => decide (x ≤ y)).map (fun k => (lookL L k).en) = (srtL L).map TLabel.en := by
    rw [← srtL_merge hd, List.map_map]; rfl
  rw [look_all hd, e1] at h
  exact h

end Go.Proofs.YtpffahmmklpifaaGreat.Abs

/- The walks of labels and their boxes. -/
namespace Go.Proofs.YtpffahmmklpifaaGreat.Abs
open Go.Proofs Go.RowKit
set_option linter.unusedVariables false
set_option linter.unusedSimpArgs false
set_option maxRecDepth 100000
set_option maxHeartbeats 2000000
attribute [local irreducible] OpA AL AW DL DLM DLR DLS QOp POp VCalls VCallsI
theorem ov_s (a b : TBox) : VCalls Tryz.prog 218 [.agg a.en, .agg b.en] (fun r M => r = B (ovB a b) ∧ M = []) := by
  refine VB Tryz.func218 43 (fun E hE => ?_)
  dsimp only [TPoint.en, TBox.en]
  repeat' ((first
    | (refine iAL ?_; first | refine AL.any ?_ | refine AL.W ?_ | refine AL.W (h := fun h => by (try rw [h]); exact POp.k Tryz.func175 (hc := min_s _ _)) ?_ | refine AL.nil ?_)
    | ((with_reducible show DL ..); first | refine DL.any ?_ | refine DL.any (h := POp.k Tryz.func241 (hc := by first | exact isBox_s b | exact isBox_s a)) ?_ | refine DL.W ?_ | refine DL.W (h := fun h => by (try rw [h]); exact POp.k Tryz.func175 (hc := min_s _ _)) ?_ | refine DL.W (h := fun h => by (try rw [h]); exact POp.k Tryz.func222 (hc := max_s _ _)) ?_ | refine DL.W (h := fun h => by (try rw [h]); exact POp.k Tryz.func241 (hc := by first | exact isBox_s b | exact isBox_s a)) ?_ | refine DL.nil ?_)
    | (refine iAW ?_; first | (refine AW.c0 ?_; constructor) | refine AW.dr (id := 1) 37 ?_)) <;> (try dsimp only))
  all_goals exact Fin.one rfl (RV.tmp (by rfl)) (clo_c _) ⟨by first | rfl | (simp only [ovB, Bool.and_assoc]; done), rfl⟩

theorem ov_i0 (a b : TBox) : VCalls Tryz.prog 219 [.agg a.en, .agg b.en] (fun r M => r = B (ovI a b) ∧ M = []) := by
  refine VB Tryz.func219 25 (fun E hE => ?_)
  dsimp only [TPoint.en, TBox.en]
  repeat' ((first
    | (refine iAL ?_; first | refine AL.any ?_ | refine AL.any (h := POp.k Tryz.func250 (hc := by first | exact isBox_i b | exact isBox_i a)) ?_ | refine AL.any (h := POp.k Tryz.func286 (hc := com_i a b)) ?_ | refine AL.W ?_ | refine AL.W (h := fun h => by (try rw [h]); exact POp.k Tryz.func250 (hc := by first | exact isBox_i b | exact isBox_i a)) ?_ | refine AL.nil ?_)
    | (refine iAW ?_; (refine AW.c0 ?_; constructor))) <;> (try dsimp only))
  all_goals exact Fin.one rfl (RV.tmp (by rfl)) (clo_c _) ⟨by first | rfl | (simp only [ovI, Bool.and_assoc]; done), rfl⟩

theorem ov_i (a b : TBox) : VCalls Tryz.prog 219 [.agg a.en, .agg b.en] (fun r M => r = B (ovB a b) ∧ M = []) := ovI_eq a b ▸ ov_i0 a b
theorem nw_s (s : ByteArray) (hs : isName s = true) : VCalls Tryz.prog 274 [S s] (fun r M => r = I (2 * (s.size : Int)) ∧ M = []) := by
  refine VB Tryz.func274 8 (fun E hE => ?_)
  have hm := name_max hs
  have hb := name_len hs
  repeat' ((first
    | (refine iAL ?_; first | refine AL.any ?_ | refine AL.any (h := POp.k Tryz.func169 (hc := isName_s s hm)) ?_ | refine AL.nil ?_)
    | (refine iAW ?_; first | (refine AW.c0 ?_; constructor) | refine AW.cF ?_)) <;> (try dsimp only))
  all_goals exact Fin.one rfl (RV.tmp (by rfl)) (clo_c _) ⟨by rw [w64 (by omega) (by omega)], rfl⟩

theorem lab_s0 (p : TPoint) (s : ByteArray) (hp : isp p.x p.y = true) (hs : isName s = true) : VCalls Tryz.prog 206 [.agg p.en, S s, I 0] (fun r M => r = .tup [.agg (labB p s 0).en, B (lbOk p s 0)] ∧ M = []) := by
  refine VB Tryz.func206 61 (fun E hE => ?_)
  dsimp only [TPoint.en, TBox.en]
  have hm := name_max hs
  have hb := name_len hs
  have h03 : inr 0 0 3 = true := rfl
  rcases Bool.eq_false_or_eq_true (isBoxB (lbx p s 0)) with hbx | hbx
  repeat' ((first
    | (refine iAL ?_; first | refine AL.any ?_ | refine AL.any (h := POp.k Tryz.func170 (hc := by first | exact isp_s_t _ _ (by assumption) | exact isp_s_f _ _ (by assumption) | exact isp_s _ _)) ?_ | refine AL.any (h := POp.k Tryz.func241 (hc := isBox_s (lbx p s 0))) ?_ | refine AL.T ?_ | refine AL.T (h := POp.k Tryz.func96 (hc := inr_s _ _ _)) ?_ | refine AL.T (h := POp.k Tryz.func169 (hc := isName_s s hm)) ?_ | refine AL.nil ?_)
    | ((with_reducible show DLM ..); first | refine DLM.any ?_ | refine DLM.mk ?_ | refine DLM.any (h := fun Y => POp.k Tryz.func274 (hc := nw_s s (by assumption))) ?_ | refine DLM.nil ?_)
    | (refine iAW ?_; first | (refine AW.c0 ?_; constructor) | refine AW.drM (id := 3) 12 11 ?_ | refine AW.cT ?_ | refine AW.cF ?_)) <;> (try dsimp only))
  all_goals exact Fin.two rfl (RV.cell (QOp.quietA TT_ok (by rfl))) (RV.tmp (by rfl)) (clo_of (by rfl)) ⟨by first | (rw [labB, lbOk, if_pos hbx, hbx] <;> rfl) | (rw [labB, lbOk, if_neg (by rw [hbx]; decide), hbx] <;> rfl), rfl⟩

theorem lab_s1 (p : TPoint) (s : ByteArray) (hp : isp p.x p.y = true) (hs : isName s = true) : VCalls Tryz.prog 206 [.agg p.en, S s, I 1] (fun r M => r = .tup [.agg (labB p s 1).en, B (lbOk p s 1)] ∧ M = []) := by
  refine VB Tryz.func206 61 (fun E hE => ?_)
  dsimp only [TPoint.en, TBox.en]
  have hm := name_max hs
  have hb := name_len hs
  have h03 : inr 1 0 3 = true := rfl
  rcases Bool.eq_false_or_eq_true (isBoxB (lbx p s 1)) with hbx | hbx
  repeat' ((first
    | (refine iAL ?_; first | refine AL.any ?_ | refine AL.any (h := POp.k Tryz.func170 (hc := by first | exact isp_s_t _ _ (by assumption) | exact isp_s_f _ _ (by assumption) | exact isp_s _ _)) ?_ | refine AL.any (h := POp.k Tryz.func241 (hc := isBox_s (lbx p s 1))) ?_ | refine AL.T ?_ | refine AL.T (h := POp.k Tryz.func96 (hc := inr_s _ _ _)) ?_ | refine AL.T (h := POp.k Tryz.func169 (hc := isName_s s hm)) ?_ | refine AL.nil ?_)
    | ((with_reducible show DL ..); first | refine DL.any ?_ | refine DL.any (h := POp.k Tryz.func274 (hc := nw_s s (by assumption))) ?_ | refine DL.nil ?_)
    | ((with_reducible show DLM ..); first | refine DLM.any ?_ | refine DLM.mk ?_ | refine DLM.any (h := fun Y => POp.k Tryz.func274 (hc := nw_s s (by assumption))) ?_ | refine DLM.nil ?_)
    | (refine iAW ?_; first | (refine AW.c0 ?_; constructor) | refine AW.drM (id := 3) 12 11 ?_ | refine AW.dr (id := 5) 4 ?_ | refine AW.cT ?_ | refine AW.cF ?_)) <;> (try dsimp only))
  all_goals exact Fin.two rfl (RV.cell (QOp.quietA TT_ok (by rfl))) (RV.tmp (by rfl)) (clo_of (by rfl)) ⟨by first | (rw [labB, lbOk, if_pos hbx, hbx] <;> rfl) | (rw [labB, lbOk, if_neg (by rw [hbx]; decide), hbx] <;> rfl), rfl⟩

theorem lab_s2 (p : TPoint) (s : ByteArray) (hp : isp p.x p.y = true) (hs : isName s = true) : VCalls Tryz.prog 206 [.agg p.en, S s, I 2] (fun r M => r = .tup [.agg (labB p s 2).en, B (lbOk p s 2)] ∧ M = []) := by
  refine VB Tryz.func206 61 (fun E hE => ?_)
  dsimp only [TPoint.en, TBox.en]
  have hm := name_max hs
  have hb := name_len hs
  have h03 : inr 2 0 3 = true := rfl
  rcases Bool.eq_false_or_eq_true (isBoxB (lbx p s 2)) with hbx | hbx
  repeat' ((first
    | (refine iAL ?_; first | refine AL.any ?_ | refine AL.any (h := POp.k Tryz.func170 (hc := by first | exact isp_s_t _ _ (by assumption) | exact isp_s_f _ _ (by assumption) | exact isp_s _ _)) ?_ | refine AL.any (h := POp.k Tryz.func241 (hc := isBox_s (lbx p s 2))) ?_ | refine AL.T ?_ | refine AL.T (h := POp.k Tryz.func96 (hc := inr_s _ _ _)) ?_ | refine AL.T (h := POp.k Tryz.func169 (hc := isName_s s hm)) ?_ | refine AL.nil ?_)
    | ((with_reducible show DLM ..); first | refine DLM.any ?_ | refine DLM.mk ?_ | refine DLM.any (h := fun Y => POp.k Tryz.func274 (hc := nw_s s (by assumption))) ?_ | refine DLM.nil ?_)
    | (refine iAW ?_; first | (refine AW.c0 ?_; constructor) | refine AW.drM (id := 3) 12 11 ?_ | refine AW.cT ?_ | refine AW.cF ?_)) <;> (try dsimp only))
  all_goals exact Fin.two rfl (RV.cell (QOp.quietA TT_ok (by rfl))) (RV.tmp (by rfl)) (clo_of (by rfl)) ⟨by first | (rw [labB, lbOk, if_pos hbx, hbx] <;> rfl) | (rw [labB, lbOk, if_neg (by rw [hbx]; decide), hbx] <;> rfl), rfl⟩

theorem lab_s3 (p : TPoint) (s : ByteArray) (hp : isp p.x p.y = true) (hs : isName s = true) : VCalls Tryz.prog 206 [.agg p.en, S s, I 3] (fun r M => r = .tup [.agg (labB p s 3).en, B (lbOk p s 3)] ∧ M = []) := by
  refine VB Tryz.func206 61 (fun E hE => ?_)
  dsimp only [TPoint.en, TBox.en]
  have hm := name_max hs
  have hb := name_len hs
  have h03 : inr 3 0 3 = true := rfl
  rcases Bool.eq_false_or_eq_true (isBoxB (lbx p s 3)) with hbx | hbx
  repeat' ((first
    | (refine iAL ?_; first | refine AL.any ?_ | refine AL.any (h := POp.k Tryz.func170 (hc := by first | exact isp_s_t _ _ (by assumption) | exact isp_s_f _ _ (by assumption) | exact isp_s _ _)) ?_ | refine AL.any (h := POp.k Tryz.func241 (hc := isBox_s (lbx p s 3))) ?_ | refine AL.T ?_ | refine AL.T (h := POp.k Tryz.func96 (hc := inr_s _ _ _)) ?_ | refine AL.T (h := POp.k Tryz.func169 (hc := isName_s s hm)) ?_ | refine AL.nil ?_)
    | ((with_reducible show DL ..); first | refine DL.any ?_ | refine DL.any (h := POp.k Tryz.func274 (hc := nw_s s (by assumption))) ?_ | refine DL.nil ?_)
    | ((with_reducible show DLM ..); first | refine DLM.any ?_ | refine DLM.mk ?_ | refine DLM.any (h := fun Y => POp.k Tryz.func274 (hc := nw_s s (by assumption))) ?_ | refine DLM.nil ?_)
    | (refine iAW ?_; first | (refine AW.c0 ?_; constructor) | refine AW.drM (id := 3) 12 11 ?_ | refine AW.dr (id := 5) 4 ?_ | refine AW.cT ?_ | refine AW.cF ?_)) <;> (try dsimp only))
  all_goals exact Fin.two rfl (RV.cell (QOp.quietA TT_ok (by rfl))) (RV.tmp (by rfl)) (clo_of (by rfl)) ⟨by first | (rw [labB, lbOk, if_pos hbx, hbx] <;> rfl) | (rw [labB, lbOk, if_neg (by rw [hbx]; decide), hbx] <;> rfl), rfl⟩

theorem lab_s (p : TPoint) (s : ByteArray) (k : Int) (hp : isp p.x p.y = true) (hs : isName s = true) (hk : inr k 0 3 = true) : VCalls Tryz.prog 206 [.agg p.en, S s, I k] (fun r M => r = .tup [.agg (labB p s k).en, B (lbOk p s k)] ∧ M = []) := by
  rcases in03 hk with rfl | rfl | rfl | rfl
  · exact lab_s0 p s hp hs
  · exact lab_s1 p s hp hs
  · exact lab_s2 p s hp hs
  · exact lab_s3 p s hp hs
theorem nw_i (s : ByteArray) (hs : isName s = true) : VCalls Tryz.prog 284 [S s] (fun r M => r = I (2 * (s.size : Int)) ∧ M = []) := by
  refine VB Tryz.func284 8 (fun E hE => ?_)
  have hm := name_max hs
  have hb := name_len hs
  repeat' ((first
    | (refine iAL ?_; first | refine AL.any ?_ | refine AL.any (h := POp.k Tryz.func179 (hc := isName_i s hm)) ?_ | refine AL.nil ?_)
    | (refine iAW ?_; first | (refine AW.c0 ?_; constructor) | refine AW.cF ?_)) <;> (try dsimp only))
  all_goals exact Fin.one rfl (RV.tmp (by rfl)) (clo_c _) ⟨by rw [w64 (by omega) (by omega)], rfl⟩

theorem lab_i0 (p : TPoint) (s : ByteArray) (hp : isp p.x p.y = true) (hs : isName s = true) : VCalls Tryz.prog 214 [.agg p.en, S s, I 0] (fun r M => r = .tup [.agg (labB p s 0).en, B (lbOk p s 0)] ∧ M = []) := by
  refine VB Tryz.func214 61 (fun E hE => ?_)
  dsimp only [TPoint.en, TBox.en]
  have hm := name_max hs
  have hb := name_len hs
  have h03 : inr 0 0 3 = true := rfl
  rcases Bool.eq_false_or_eq_true (isBoxB (lbx p s 0)) with hbx | hbx
  repeat' ((first
    | (refine iAL ?_; first | refine AL.any ?_ | refine AL.any (h := POp.k Tryz.func180 (hc := by first | exact isp_v_t _ _ (by assumption) | exact isp_v_f _ _ (by assumption) | exact isp_v _ _)) ?_ | refine AL.any (h := POp.k Tryz.func250 (hc := isBox_i (lbx p s 0))) ?_ | refine AL.T ?_ | refine AL.T (h := POp.k Tryz.func145 (hc := inr_v _ _ _)) ?_ | refine AL.T (h := POp.k Tryz.func179 (hc := isName_i s hm)) ?_ | refine AL.nil ?_)
    | ((with_reducible show DL ..); first | refine DL.any ?_ | refine DL.any (h := POp.k Tryz.func284 (hc := nw_i s (by assumption))) ?_ | refine DL.nil ?_)
    | (refine iAW ?_; first | (refine AW.c0 ?_; constructor) | refine AW.dr (id := 5) 5 ?_ | refine AW.cT ?_ | refine AW.cF ?_)) <;> (try dsimp only))
  all_goals exact Fin.two rfl (RV.cell (QOp.quietA TT_ok (by rfl))) (RV.tmp (by rfl)) (clo_of (by rfl)) ⟨by first | (rw [labB, lbOk, if_pos hbx, hbx] <;> rfl) | (rw [labB, lbOk, if_neg (by rw [hbx]; decide), hbx] <;> rfl), rfl⟩

theorem lab_i1 (p : TPoint) (s : ByteArray) (hp : isp p.x p.y = true) (hs : isName s = true) : VCalls Tryz.prog 214 [.agg p.en, S s, I 1] (fun r M => r = .tup [.agg (labB p s 1).en, B (lbOk p s 1)] ∧ M = []) := by
  refine VB Tryz.func214 61 (fun E hE => ?_)
  dsimp only [TPoint.en, TBox.en]
  have hm := name_max hs
  have hb := name_len hs
  have h03 : inr 1 0 3 = true := rfl
  rcases Bool.eq_false_or_eq_true (isBoxB (lbx p s 1)) with hbx | hbx
  repeat' ((first
    | (refine iAL ?_; first | refine AL.any ?_ | refine AL.any (h := POp.k Tryz.func180 (hc := by first | exact isp_v_t _ _ (by assumption) | exact isp_v_f _ _ (by assumption) | exact isp_v _ _)) ?_ | refine AL.any (h := POp.k Tryz.func250 (hc := isBox_i (lbx p s 1))) ?_ | refine AL.T ?_ | refine AL.T (h := POp.k Tryz.func145 (hc := inr_v _ _ _)) ?_ | refine AL.T (h := POp.k Tryz.func179 (hc := isName_i s hm)) ?_ | refine AL.nil ?_)
    | ((with_reducible show DL ..); first | refine DL.any ?_ | refine DL.any (h := POp.k Tryz.func284 (hc := nw_i s (by assumption))) ?_ | refine DL.nil ?_)
    | (refine iAW ?_; first | (refine AW.c0 ?_; constructor) | refine AW.dr (id := 6) 5 ?_ | refine AW.cT ?_ | refine AW.cF ?_)) <;> (try dsimp only))
  all_goals exact Fin.two rfl (RV.cell (QOp.quietA TT_ok (by rfl))) (RV.tmp (by rfl)) (clo_of (by rfl)) ⟨by first | (rw [labB, lbOk, if_pos hbx, hbx] <;> rfl) | (rw [labB, lbOk, if_neg (by rw [hbx]; decide), hbx] <;> rfl), rfl⟩

theorem lab_i2 (p : TPoint) (s : ByteArray) (hp : isp p.x p.y = true) (hs : isName s = true) : VCalls Tryz.prog 214 [.agg p.en, S s, I 2] (fun r M => r = .tup [.agg (labB p s 2).en, B (lbOk p s 2)] ∧ M = []) := by
  refine VB Tryz.func214 61 (fun E hE => ?_)
  dsimp only [TPoint.en, TBox.en]
  have hm := name_max hs
  have hb := name_len hs
  have h03 : inr 2 0 3 = true := rfl
  rcases Bool.eq_false_or_eq_true (isBoxB (lbx p s 2)) with hbx | hbx
  repeat' ((first
    | (refine iAL ?_; first | refine AL.any ?_ | refine AL.any (h := POp.k Tryz.func180 (hc := by first | exact isp_v_t _ _ (by assumption) | exact isp_v_f _ _ (by assumption) | exact isp_v _ _)) ?_ | refine AL.any (h := POp.k Tryz.func250 (hc := isBox_i (lbx p s 2))) ?_ | refine AL.T ?_ | refine AL.T (h := POp.k Tryz.func145 (hc := inr_v _ _ _)) ?_ | refine AL.T (h := POp.k Tryz.func179 (hc := isName_i s hm)) ?_ | refine AL.nil ?_)
    | ((with_reducible show DL ..); first | refine DL.any ?_ | refine DL.any (h := POp.k Tryz.func284 (hc := nw_i s (by assumption))) ?_ | refine DL.nil ?_)
    | (refine iAW ?_; first | (refine AW.c0 ?_; constructor) | refine AW.dr (id := 5) 5 ?_ | refine AW.cT ?_ | refine AW.cF ?_)) <;> (try dsimp only))
  all_goals exact Fin.two rfl (RV.cell (QOp.quietA TT_ok (by rfl))) (RV.tmp (by rfl)) (clo_of (by rfl)) ⟨by first | (rw [labB, lbOk, if_pos hbx, hbx] <;> rfl) | (rw [labB, lbOk, if_neg (by rw [hbx]; decide), hbx] <;> rfl), rfl⟩

theorem lab_i3 (p : TPoint) (s : ByteArray) (hp : isp p.x p.y = true) (hs : isName s = true) : VCalls Tryz.prog 214 [.agg p.en, S s, I 3] (fun r M => r = .tup [.agg (labB p s 3).en, B (lbOk p s 3)] ∧ M = []) := by
  refine VB Tryz.func214 61 (fun E hE => ?_)
  dsimp only [TPoint.en, TBox.en]
  have hm := name_max hs
  have hb := name_len hs
  have h03 : inr 3 0 3 = true := rfl
  rcases Bool.eq_false_or_eq_true (isBoxB (lbx p s 3)) with hbx | hbx
  repeat' ((first
    | (refine iAL ?_; first | refine AL.any ?_ | refine AL.any (h := POp.k Tryz.func180 (hc := by first | exact isp_v_t _ _ (by assumption) | exact isp_v_f _ _ (by assumption) | exact isp_v _ _)) ?_ | refine AL.any (h := POp.k Tryz.func250 (hc := isBox_i (lbx p s 3))) ?_ | refine AL.T ?_ | refine AL.T (h := POp.k Tryz.func145 (hc := inr_v _ _ _)) ?_ | refine AL.T (h := POp.k Tryz.func179 (hc := isName_i s hm)) ?_ | refine AL.nil ?_)
    | ((with_reducible show DL ..); first | refine DL.any ?_ | refine DL.any (h := POp.k Tryz.func284 (hc := nw_i s (by assumption))) ?_ | refine DL.nil ?_)
    | (refine iAW ?_; first | (refine AW.c0 ?_; constructor) | refine AW.dr (id := 6) 5 ?_ | refine AW.cT ?_ | refine AW.cF ?_)) <;> (try dsimp only))
  all_goals exact Fin.two rfl (RV.cell (QOp.quietA TT_ok (by rfl))) (RV.tmp (by rfl)) (clo_of (by rfl)) ⟨by first | (rw [labB, lbOk, if_pos hbx, hbx] <;> rfl) | (rw [labB, lbOk, if_neg (by rw [hbx]; decide), hbx] <;> rfl), rfl⟩

theorem lab_i (p : TPoint) (s : ByteArray) (k : Int) (hp : isp p.x p.y = true) (hs : isName s = true) (hk : inr k 0 3 = true) : VCalls Tryz.prog 214 [.agg p.en, S s, I k] (fun r M => r = .tup [.agg (labB p s k).en, B (lbOk p s k)] ∧ M = []) := by
  rcases in03 hk with rfl | rfl | rfl | rfl
  · exact lab_i0 p s hp hs
  · exact lab_i1 p s hp hs
  · exact lab_i2 p s hp hs
  · exact lab_i3 p s hp hs
theorem cor_s (p : TPoint) (s : ByteArray) (hp : isp p.x p.y = true) (hs : isName s = true) : VCalls Tryz.prog 273 [.agg p.en, S s] (fun r M => r = .ro 1 ((cors p s).map enI) ∧ M = []) := by
  refine VB Tryz.func273 25 (fun E hE => ?_)
  have hclp : Clo (.agg p.en) := Clo.agg p.clo_en
  have hm := name_max hs
  have hb := name_len hs
  repeat' ((first
    | (refine iAL ?_; first | refine AL.any ?_ | refine AL.any (h := POp.k Tryz.func206 (hc := lab_s p s (i : Int) hp hs hk3)) ?_ | refine AL.nil ?_)
    | (refine iAW ?_; first | (refine AW.freezeRet (t := 4) (id := 1) rfl rfl rfl rfl (clo_rows clo_enI) ?_; (try simp only [List.take_length]); try dsimp only [dput, List.set, cond_true, cond_false, Nat.zero_add, Nat.add_zero, Nat.reduceAdd, splice, List.take, List.drop, List.length, List.nil_append, List.cons_append, List.append, TPoint.en, TSegment.en, TBox.en, TFeature.en, TMeet.en, TPlace.en, TCover.en, TLabel.en, TPiece.en, TLevel.en, TChart.en, TReason.en, TEdit.en, TEntry.en, TEdition.en, TListing.en, TAtlas.en, TEvent.en, TWindow.en]) | (refine AW.c0 ?_; constructor) | refine AW.cT ?_ | refine AW.cF ?_)
    | (
  refine AW.loopD hE (fun i : Nat => [.any, S s, .ref 0 0 2 0 0, .any, .any, .own 1 (crTo p s i).length, I (i : Int), .any, .any, .any, .any, .any, .any, .any, .any, .any, .any, .any, .any, .any, .any, .any, .any, .any, .any, .any, .any]) (fun i => [some ⟨141, 2, 0, true, [p.en]⟩, some ⟨3, 1, (crTo p s i).length, false, (crTo p s i).map enI⟩]) (fun i => 4 - i) (fun i => i ≤ 4) 0 (Nat.zero_le _) ?_ (by first | rfl | (simp [fil_zero]; done)) ?_
  (focus (exact wkI))
  intro i hi
  by_cases hlt : i < 4
  case' pos =>
    have hP := True.intro
    have hk3 := nat03 hlt
    have hcll : Clo (.agg (labB p s (i : Int)).en) := Clo.agg (TBox.clo_en _)
    have hclt : Clo (.tup [.agg (labB p s (i : Int)).en, B (lbOk p s (i : Int))]) := Clo.tup (clo_cons hcll (clo_cons (clo_c _) clo_nil))
    have hln := crTo_len p s i
    have ht : decide ((i : Int) < 4) = true := decide_eq_true (by omega)
    have hn : IntKind.i64.wrap ((i : Int) + 1) = ((i + 1 : Nat) : Int) := by rw [w64 (by omega) (by omega)]; rfl
    rcases Bool.eq_false_or_eq_true (lbOk p s (i : Int)) with hk | hk
    case' inl => obtain ⟨hm1, hm2⟩ := crTo_y hk
    case' inr => obtain ⟨hm1, hm2⟩ := crTo_n hk
  case' neg =>
    have hQ := True.intro
    have e : i = 4 := by omega
    have ht : decide ((i : Int) < 4) = false := decide_eq_false (by omega)
    subst e)) <;> (try dsimp only))
  all_goals first
    | (have _ := hP; (refine ⟨i + 1, _, hlt, by omega, ?_, by rw [hm1, hm2] <;> rfl, ?_, ?_⟩; (focus (exact wkH)); (focus (exact fitsA)); (focus (exact fitsM_cons (clo_one p.clo_en) (fitsM_cons (clo_rows clo_enI) (FitsM.nil _))))))
    | (have _ := hQ; exact Fin.one rfl (RV.tmp (by rfl)) (clo_list clo_enI) ⟨rfl, rfl⟩)

theorem cor_i (p : TPoint) (s : ByteArray) (hp : isp p.x p.y = true) (hs : isName s = true) : VCalls Tryz.prog 282 [.agg p.en, S s] (fun r M => r = .ro 1 ((cors p s).map enI) ∧ M = []) := by
  refine VB Tryz.func282 25 (fun E hE => ?_)
  have hclp : Clo (.agg p.en) := Clo.agg p.clo_en
  have hm := name_max hs
  have hb := name_len hs
  repeat' ((first
    | (refine iAL ?_; first | refine AL.any ?_ | refine AL.any (h := POp.k Tryz.func214 (hc := lab_i p s (i : Int) hp hs hk3)) ?_ | refine AL.nil ?_)
    | (refine iAW ?_; first | (refine AW.freezeRet (t := 4) (id := 1) rfl rfl rfl rfl (clo_rows clo_enI) ?_; (try simp only [List.take_length]); try dsimp only [dput, List.set, cond_true, cond_false, Nat.zero_add, Nat.add_zero, Nat.reduceAdd, splice, List.take, List.drop, List.length, List.nil_append, List.cons_append, List.append, TPoint.en, TSegment.en, TBox.en, TFeature.en, TMeet.en, TPlace.en, TCover.en, TLabel.en, TPiece.en, TLevel.en, TChart.en, TReason.en, TEdit.en, TEntry.en, TEdition.en, TListing.en, TAtlas.en, TEvent.en, TWindow.en]) | (refine AW.c0 ?_; constructor) | refine AW.cT ?_ | refine AW.cF ?_)
    | (
  refine AW.loopD hE (fun i : Nat => [.any, S s, .ref 0 0 2 0 0, .any, .any, .own 1 (crTo p s i).length, .any, .any, .any, .any, I (i : Int), .any, .any, .any, .any, .any, .any, .any, .any, .any, .any, .any, .any, .any, .any, .any, .any]) (fun i => [some ⟨141, 2, 0, true, [p.en]⟩, some ⟨3, 1, (crTo p s i).length, false, (crTo p s i).map enI⟩]) (fun i => 4 - i) (fun i => i ≤ 4) 0 (Nat.zero_le _) ?_ (by first | rfl | (simp [fil_zero]; done)) ?_
  (focus (exact wkI))
  intro i hi
  by_cases hlt : i < 4
  case' pos =>
    have hP := True.intro
    have hk3 := nat03 hlt
    have hcll : Clo (.agg (labB p s (i : Int)).en) := Clo.agg (TBox.clo_en _)
    have hclt : Clo (.tup [.agg (labB p s (i : Int)).en, B (lbOk p s (i : Int))]) := Clo.tup (clo_cons hcll (clo_cons (clo_c _) clo_nil))
    have hln := crTo_len p s i
    have ht : decide ((i : Int) < 4) = true := decide_eq_true (by omega)
    have hn : IntKind.i64.wrap ((i : Int) + 1) = ((i + 1 : Nat) : Int) := by rw [w64 (by omega) (by omega)]; rfl
    rcases Bool.eq_false_or_eq_true (lbOk p s (i : Int)) with hk | hk
    case' inl => obtain ⟨hm1, hm2⟩ := crTo_y hk
    case' inr => obtain ⟨hm1, hm2⟩ := crTo_n hk
  case' neg =>
    have hQ := True.intro
    have e : i = 4 := by omega
    have ht : decide ((i : Int) < 4) = false := decide_eq_false (by omega)
    subst e)) <;> (try dsimp only))
  all_goals first
    | (have _ := hP; (refine ⟨i + 1, _, hlt, by omega, ?_, by rw [hm1, hm2] <;> rfl, ?_, ?_⟩; (focus (exact wkH)); (focus (exact fitsA)); (focus (exact fitsM_cons (clo_one p.clo_en) (fitsM_cons (clo_rows clo_enI) (FitsM.nil _))))))
    | (have _ := hQ; exact Fin.one rfl (RV.tmp (by rfl)) (clo_list clo_enI) ⟨rfl, rfl⟩)

theorem free_i (b : TBox) (tk : List TBox) (htk : tk.length ≤ 1048576) : VCalls Tryz.prog 283 [.agg b.en, .ro 4 (tk.map TBox.en)] (fun r M => r = B (freeB b tk) ∧ M = []) := by
  refine VB Tryz.func283 15 (fun E hE => ?_)
  have hclo : Clo (.ro 4 (tk.map TBox.en)) := clo_list TBox.clo_en
  have hclb : Clo (.agg b.en) := Clo.agg b.clo_en
  repeat' ((first
    | (refine iAL ?_; first | refine AL.any ?_ | refine AL.any (h := POp.k Tryz.func219 (hc := ov_i b t)) ?_ | refine AL.nil ?_)
    | (refine iAW ?_; first | (refine AW.c0 ?_; constructor) | refine AW.cT ?_ | refine AW.cF ?_)
    | (
  refine AW.loopD hE (fun i : Nat => [.any, .any, .ref 0 0 4 0 0, .any, .any, .any, .any, .ro 4 (tk.map TBox.en), I ((tk.map TBox.en).length : Int), I (i : Int), .any, .any, .any, .any, .any, .any, .any]) (fun i => [some ⟨143, 4, 0, true, [b.en]⟩]) (fun i => tk.length - i) (fun i => i ≤ tk.length ∧ (tk.take i).all (noOv b) = true) 0 ⟨Nat.zero_le _, rfl⟩ ?_ (by first | rfl | (simp [fil_zero]; done)) ?_
  (focus (exact wkI))
  intro i hi
  by_cases hlt : i < tk.length
  case' pos =>
    have hP := True.intro
    obtain ⟨t, hx⟩ : ∃ x, tk[i]? = some x := ⟨_, List.getElem?_eq_getElem hlt⟩
    have hg := map_get (f := TBox.en) hx
    have ht := lt_true (f := TBox.en) hlt
    have hn := next_ix hlt (by omega)
    have hclt : Clo (.agg t.en) := Clo.agg t.clo_en
    rcases Bool.eq_false_or_eq_true (ovB b t) with hov | hov
    case' inl => have hres := free_no hx (show noOv b t = false by rw [noOv, hov]; rfl)
    case' inr => have hjn := all_take_y' hx hi.2 (show noOv b t = true by rw [noOv, hov]; rfl)
  case' neg =>
    have hQ := True.intro
    have ht := lt_false (f := TBox.en) hlt
    have e : i = tk.length := by omega
    subst e
    try rw [List.take_length])) <;> (try dsimp only))
  all_goals first
    | (have _ := hP; (refine ⟨i + 1, _, ⟨hlt, hjn⟩, by omega, ?_, rfl, ?_, ?_⟩; (focus (exact wkH)); (focus (exact fitsA)); (focus (exact fitsM_cons (clo_one b.clo_en) (FitsM.nil _)))))
    | (have _ := hP; exact Fin.one rfl (RV.tmp (by rfl)) (clo_c _) ⟨by rw [hres], rfl⟩)
    | (have _ := hQ; exact Fin.one rfl (RV.tmp (by rfl)) (clo_c _) ⟨by (have h2 := hi.2; rw [List.take_length] at h2; rw [freeB, h2]), rfl⟩)

theorem fc_i (p : TPoint) (s : ByteArray) (hp : isp p.x p.y = true) (hs : isName s = true) (tk : List TBox) (htk : tk.length ≤ 1048576) : VCalls Tryz.prog 213 [.agg p.en, S s, .ro 4 (tk.map TBox.en)] (fun r M => r = I (frC p s tk) ∧ M = []) := by
  refine VB Tryz.func213 28 (fun E hE => ?_)
  have hclp : Clo (.agg p.en) := Clo.agg p.clo_en
  have hm := name_max hs
  have hb := name_len hs
  have hclo : Clo (.ro 4 (tk.map TBox.en)) := clo_list TBox.clo_en
  have hclK : Clo (.ro 1 ((cors p s).map enI)) := clo_list clo_enI
  have hcl4 := cors_len p s
  repeat' ((first
    | (refine iAL ?_; first | refine AL.any ?_ | refine AL.any (h := POp.k Tryz.func214 (hc := lab_i p s k hp hs hk3)) ?_ | refine AL.any (h := POp.k Tryz.func282 (hc := cor_i _ _ (by assumption) (by assumption))) ?_ | refine AL.any (h := POp.k Tryz.func283 (hc := free_i (labB p s k) tk htk)) ?_ | refine AL.nil ?_)
    | (refine iAW ?_; first | (refine AW.c0 ?_; constructor) | refine AW.cT ?_ | refine AW.cF ?_)
    | (
  refine AW.loopD hE (fun i : Nat => [.any, S s, .ro 4 (tk.map TBox.en), .ref 0 0 2 0 0, .any, .any, .any, .any, .any, .any, .any, .any, .any, .ro 1 ((cors p s).map enI), I (((cors p s).map enI).length : Int), I (i : Int), .any, .any, .any, .any, .any, .any, .any, .any, .any, .any, .any, .any, .any, .any, .any]) (fun i => [some ⟨141, 2, 0, true, [p.en]⟩]) (fun i => (cors p s).length - i) (fun i => i ≤ (cors p s).length ∧ ((cors p s).take i).all (fun y => !frK p s tk y) = true) 0 ⟨Nat.zero_le _, rfl⟩ ?_ (by first | rfl | (simp [fil_zero]; done)) ?_
  (focus (exact wkI))
  intro i hi
  by_cases hlt : i < (cors p s).length
  case' pos =>
    have hP := True.intro
    obtain ⟨k, hx⟩ : ∃ x, (cors p s)[i]? = some x := ⟨_, List.getElem?_eq_getElem hlt⟩
    have hg := map_get (f := enI) hx
    have ht := lt_true (f := enI) hlt
    have hn := next_ix hlt (by omega)
    have hk3 := (cors_mem (List.mem_of_getElem? hx)).1
    have hcll : Clo (.agg (labB p s k).en) := Clo.agg (TBox.clo_en _)
    have hclt : Clo (.tup [.agg (labB p s k).en, B (lbOk p s k)]) := Clo.tup (clo_cons hcll (clo_cons (clo_c _) clo_nil))
    rcases Bool.eq_false_or_eq_true (freeB (labB p s k) tk) with hfr | hfr
    case' inl => have hres := frC_at hx hfr hi.2
    case' inr => have hjn := all_take_y' (p := fun y => !frK p s tk y) hx hi.2 (by unfold frK; rw [hfr]; rfl)
  case' neg =>
    have hQ := True.intro
    have ht := lt_false (f := enI) hlt
    have e : i = (cors p s).length := by omega
    subst e
    try rw [List.take_length])) <;> (try dsimp only))
  all_goals first
    | (have _ := hP; (refine ⟨i + 1, _, ⟨hlt, hjn⟩, by omega, ?_, rfl, ?_, ?_⟩; (focus (exact wkH)); (focus (exact fitsA)); (focus (exact fitsM_cons (clo_one p.clo_en) (FitsM.nil _)))))
    | (have _ := hP; exact Fin.one rfl (RV.tmp (by rfl)) (clo_c _) ⟨by rw [hres], rfl⟩)
    | (have _ := hQ; exact Fin.one rfl (RV.tmp (by rfl)) (clo_c _) ⟨by rw [frC_no hi.2], rfl⟩)

theorem fc_s (p : TPoint) (s : ByteArray) (hp : isp p.x p.y = true) (hs : isName s = true) (tk : List TBox) (htk : tk.length ≤ 1048576) : VCalls Tryz.prog 205 [.agg p.en, S s, .ro 4 (tk.map TBox.en)] (fun r M => r = I (frC p s tk) ∧ M = []) := by
  refine VB Tryz.func205 50 (fun E hE => ?_)
  have a1 := True.intro
  have hclp : Clo (.agg p.en) := Clo.agg p.clo_en
  have hm := name_max hs
  have hb := name_len hs
  have hclo : Clo (.ro 4 (tk.map TBox.en)) := clo_list TBox.clo_en
  have hclK : Clo (.ro 1 ((cors p s).map enI)) := clo_list clo_enI
  have hcl4 := cors_len p s
  repeat' ((first
    | (refine iAL ?_; first | refine AL.any ?_ | refine AL.any (h := POp.k Tryz.func273 (hc := cor_s _ _ (by assumption) (by assumption))) ?_ | refine AL.F ?_ | refine AL.T ?_ | refine AL.T (h := POp.k Tryz.func218 (hc := ov_s (labB p s k) t)) ?_ | refine AL.nil ?_)
    | ((with_reducible show DL ..); first | refine DL.any ?_ | refine DL.F ?_ | refine DL.T ?_ | refine DL.nil ?_)
    | ((with_reducible show DLR ..); first | refine DLR.any ?_ | refine DLR.alloc rfl rfl (by first | exact ze2 | exact ze3 | exact ze4 | exact ze6 | exact ze7 | exact ze8 | exact ze9 | exact ze11 | exact ze12 | exact ze15 | exact ze16 | exact ze17 | exact ze18 | exact ze21 | exact ze22 | exact ze23 | exact ze24 | exact ze25 | exact ze26 | exact ze27 | exact ze31 | exact ze32 | exact ze33 | exact ze34 | exact ze36 | exact ze41 | exact ze42 | exact ze45 | exact ze47 | exact ze56 | exact ze81 | exact ze129 | exact ze135 | exact ze141 | exact ze143 | exact ze220) rfl rfl ?_ | refine DLR.store rfl rfl (by rfl) rfl rfl rfl rfl rfl (by rfl) (by rfl) (TT_ok.ld _ _ (by rfl)) (by rfl) (by rfl) rfl ?_ | refine DLR.any (h := fun Y => POp.k Tryz.func206 (hc := lab_s p s k hp hs hk3)) ?_ | refine DLR.nil ?_)
    | (refine iAW ?_; first | (refine AW.c0 ?_; constructor) | refine AW.drawnR (id := 5) 12 1 [none, none, none, none, none, none, none, none, none, none, some 0, some 0] [some Rsv] rfl (by kernel_rfl) (by kernel_rfl) (by kernel_rfl) (by rfl) ?_ | refine AW.dr (id := 10) 7 ?_ | refine AW.cT ?_ | refine AW.cF ?_)
    | (
  have _ := a1
  clear a1
  refine AW.loopD hE (fun s_ : Nat => [.any, S s, .ro 4 (tk.map TBox.en), .ref 0 0 2 0 0, .any, .any, .any, .ro 1 ((cors p s).map enI), I (s_ : Int), .any, .any, .any, .any, .any, .any, .any, .any, .any, .any, .any, .any, .any, .any, .any, .any, .any, .any, .any, .any, .any, .any, .any, .any, .any, .any, .any, .any, .any, .any, .any, .any, .any, .any, .any, .any, .any, .any, .any, .any, .any, .any, .any, .any]) (fun s_ => [some ⟨141, 2, 0, true, [p.en]⟩]) (fun s_ => (cors p s).length - s_) (fun s_ => s_ ≤ (cors p s).length ∧ ((cors p s).take s_).all (fun y => !frK p s tk y) = true) 0 ⟨Nat.zero_le _, rfl⟩ ?_ (by first | rfl | (rfl)) ?_
  (focus (exact wkI))
  rintro i hJ
  try dsimp only at hJ
  try dsimp only
  by_cases hlt : i < (cors p s).length
  case' pos =>
    have a2 := True.intro
    obtain ⟨k, hx⟩ := getD_some (l := (cors p s)) (i := i) hlt
    have hg := map_get (f := enI) hx
    have ht := lt_true (f := enI) hlt
    have hn := next_ix hlt (by omega)
    have hx0 := hJ.2
    have hk3 := (cors_mem (List.mem_of_getElem? hx)).1
    have hcll : Clo (.agg (labB p s k).en) := Clo.agg (TBox.clo_en _)
    have hclt : Clo (.tup [.agg (labB p s k).en, B (lbOk p s k)]) := Clo.tup (clo_cons hcll (clo_cons (clo_c _) clo_nil))
  case' neg =>
    have q1 := True.intro
    have ht := lt_false (f := enI) hlt
    have ei : i = (cors p s).length := by omega
    have hres : frC p s tk = -1 := frC_no (by rw [← ei]; exact hJ.2))
    | (
  have _ := a2
  clear a2
  refine AW.loopD hE (fun s_ : Nat => [.any, S s, .ro 4 (tk.map TBox.en), .ref 0 0 2 0 0, .any, .any, .any, .ro 1 ((cors p s).map enI), I (i : Int), .ref 1 1 4 0 0, .any, B ((tk.take s_).all (noOv (labB p s k))), I (s_ : Int), .any, .any, .any, .any, .any, .any, .any, .any, .any, .any, .any, .any, .any, .any, .any, .any, .any, .any, .any, .any, .any, .any, .any, .any, .any, .any, .any, .any, .any, .any, .any, .any, .any, .any, .any, .any, .any, .any, .any, .any]) (fun s_ => [some ⟨141, 2, 0, true, [p.en]⟩, some ⟨143, 4, 1, true, [(labB p s k).en]⟩]) (fun s_ => tk.length - s_) (fun s_ => s_ ≤ tk.length) 0 (Nat.zero_le _) ?_ (by first | rfl | (rfl)) ?_
  (focus (exact wkI))
  rintro j hJ2
  try dsimp only at hJ2
  try dsimp only
  by_cases hlt : j < tk.length
  case' pos =>
    have p2 := True.intro
    obtain ⟨t, hy⟩ := getD_some (l := tk) (i := j) hlt
    have hgy := map_get (f := TBox.en) hy
    have hty := lt_true (f := TBox.en) hlt
    have hny := next_ix hlt (by omega)
    have hclt2 : Clo (.agg t.en) := Clo.agg t.clo_en
    rcases Bool.eq_false_or_eq_true ((tk.take j).all (noOv (labB p s k))) with hb2 | hb2
    case' inl => have hat : (tk.take (j + 1)).all (noOv (labB p s k)) = !ovB (labB p s k) t := (all_take_y hy hb2).trans rfl
    case' inr => have hat : (tk.take (j + 1)).all (noOv (labB p s k)) = false := all_take_n hy hb2
  case' neg =>
    have q2 := True.intro
    have hty := lt_false (f := TBox.en) hlt
    obtain rfl : j = tk.length := by omega
    rw [List.take_length]
    rcases Bool.eq_false_or_eq_true (tk.all (noOv (labB p s k))) with hfr | hfr
    case' inl => have hres := frC_at hx hfr hx0
    case' inr => have hjn := all_take_y' (p := fun y => !frK p s tk y) hx hx0 (by unfold frK freeB; rw [hfr]; rfl))) <;> (try dsimp only))
  all_goals first
    | (have _ := p2; refine ⟨j + 1, _, hlt, by omega, ?_, rfl, ?_, ?_⟩; (focus (exact wkH)); (focus (exact fitsA)); (focus (exact fitsM_cons (clo_one p.clo_en) (fitsM_cons (clo_one (TBox.clo_en _)) (FitsM.nil _)))))
    | (have _ := q2; refine ⟨i + 1, _, ⟨(by assumption), hjn⟩, by omega, ?_, rfl, ?_, ?_⟩; (focus (exact wkH)); (focus (exact fitsA)); (focus (exact fitsM_cons (clo_one p.clo_en) (FitsM.nil _))))
    | (have _ := q2; exact Fin.one rfl (RV.tmp (by rfl)) (clo_c _) ⟨by rw [hres], rfl⟩)
    | (have _ := q1; exact Fin.one rfl (RV.tmp (by rfl)) (clo_c _) ⟨by rw [hres], rfl⟩)

end Go.Proofs.YtpffahmmklpifaaGreat.Abs
