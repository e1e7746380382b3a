/- Part Zvents of the walk over abstract states and of the functions' walks. -/
import Derived.Test.YtacbpfbelcdeiaaGreatWkStep
import Derived.Test.YtacbpfbelcdeiaaGreatBnH
import Derived.Test.YtacbpfbelcdeiaaGreatBnE
import Derived.Test.YtacbpfbelcdeiaaGreatBnF
/- The walk of the law on RunEvents. -/
namespace Go.Proofs.YtacbpfbelcdeiaaGreat.Abs
open Go.Proofs Go.RowKit
set_option linter.unusedVariables false
set_option linter.unusedSimpArgs false
set_option maxRecDepth 100000
set_option maxHeartbeats 2000000
attribute [local irreducible] OpA AL AW DL DLM DLR DLS QOp POp VCalls VCallsI
def Ctb {α : Type} (f : α → Int → Int) (ok : α → Prop) (ct : α → Nat) : Prop := ∀ x left, ok x → 0 ≤ left → left ≤ 1048576 → 0 ≤ f x left → f x left ≤ left ∧ (ct x : Int) ≤ 10 * (left - f x left) + 10
theorem Ctb.mem {α : Type} {f : α → Int → Int} {ok : α → Prop} {ct : α → Nat} (h : Ctb f ok ct) : ∀ (l : List α) (a : Int), (∀ x ∈ l, ok x) → 0 ≤ a → a ≤ 1048576 → 0 ≤ l.foldl (fun acc x => if acc < 0 then -1 else f x acc) a →
    l.foldl (fun acc x => if acc < 0 then -1 else f x acc) a ≤ a ∧ (ctL ct l : Int) ≤ 10 * (a - l.foldl (fun acc x => if acc < 0 then -1 else f x acc) a) + 10 * l.length
  | [], a, _, _, _, _ => ⟨Int.le_refl _, by simp [ctL]⟩
  | x :: l, a, hk, h0, h1, hp => by
    rw [List.foldl_cons, if_neg (by omega)] at hp ⊢
    have hx0 : 0 ≤ f x a := by
      rcases (by omega : f x a < 0 ∨ 0 ≤ f x a) with hn | hn
      · rcases sz_stuck f l (f x a) hn with e | e <;> rw [e] at hp <;> omega
      · exact hn
    obtain ⟨s1, s2⟩ := h x a (hk x (List.mem_cons_self ..)) h0 h1 hx0
    obtain ⟨t1, t2⟩ := Ctb.mem h l (f x a) (fun y hy => hk y (List.mem_cons_of_mem _ hy)) hx0 (by omega) hp
    refine ⟨by omega, ?_⟩
    rw [ctL, List.length_cons]
    omega
theorem Ctb.list {α : Type} {f : α → Int → Int} {ok : α → Prop} {ct : α → Nat} (h : Ctb f ok ct) (l : List α) (left : Int) (hk : l.length ≤ maxLen ∧ ∀ x ∈ l, ok x) (h0 : 0 ≤ left) (h1 : left ≤ 1048576) (hp : 0 ≤ szL f l left) : szL f l left ≤ left ∧ (ctL ct l : Int) ≤ 10 * (left - szL f l left) := by
  obtain ⟨a, b⟩ := thenS_ge hp
  have e := wsub_ge hk.1 h0 h1
  rw [show szL f l left = _ from b] at hp ⊢
  unfold szAcc at hp ⊢
  rw [List.take_length] at hp ⊢
  obtain ⟨s, t⟩ := h.mem l _ hk.2 a (by omega) hp
  exact ⟨by omega, by omega⟩
theorem szN_b {n : Nat} {left : Int} (hn : n ≤ maxLen) (h0 : 0 ≤ left) (h1 : left ≤ 1048576) (h : 0 ≤ szN n left) : szN n left = left - n := by
  obtain ⟨a, b⟩ := thenS_ge (show 0 ≤ szN n left from h)
  have e := wsub_ge hn h0 h1
  rw [show szN n left = wsub left n from b]
  exact e
theorem ctb_pts (x : TFeature) (left : Int) (hk : x.ok) (h0 : 0 ≤ left) (h1 : left ≤ 1048576) (hp : 0 ≤ x.sz left) : x.sz left ≤ left ∧ (ctL TPoint.ct x.points : Int) ≤ 2 * (left - x.sz left) := by
  unfold TFeature.sz at *
  obtain ⟨a, b⟩ := thenS_ge hp
  rw [b] at hp ⊢
  obtain ⟨c, d⟩ := thenS_ge hp
  rw [d] at hp ⊢
  have e := wsub_ge hk.2.2.2.1 h0 h1
  have e2 := szN_b hk.2.2.2.2.1 a (by omega) c
  have e3 := ctL_pt x.points
  omega
theorem Ctb.feature : Ctb TFeature.sz TFeature.ok TFeature.ct := fun x left hk h0 h1 hp => by
  have := ctb_pts x left hk h0 h1 hp
  unfold TFeature.ct
  omega
theorem Ctb.entry : Ctb TEntry.sz TEntry.ok TEntry.ct := fun x left hk h0 h1 hp => by
  unfold TEntry.sz at *
  obtain ⟨a, b⟩ := thenS_ge hp
  rw [b] at hp ⊢
  have := ctb_pts x.feature left hk.1 h0 h1 a
  unfold TEntry.ct
  omega
theorem Ctb.edition : Ctb TEdition.sz TEdition.ok TEdition.ct := fun x left hk h0 h1 hp => by
  unfold TEdition.sz at *
  obtain ⟨a, b⟩ := thenS_ge hp
  rw [b] at hp ⊢
  have := Ctb.feature.list x.source left hk.2.1 h0 h1 a
  unfold TEdition.ct
  omega
theorem Ctb.event : Ctb TEvent.sz TEvent.ok TEvent.ct := fun x left hk h0 h1 hp => by
  obtain ⟨_, k1, _, _, k2, k3, k4⟩ := hk
  unfold TEvent.sz at *
  obtain ⟨a, b⟩ := thenS_ge hp
  rw [b] at hp ⊢
  obtain ⟨c, d⟩ := thenS_ge hp
  rw [d] at hp ⊢
  obtain ⟨e, g⟩ := thenS_ge hp
  rw [g] at hp ⊢
  obtain ⟨i, j⟩ := thenS_ge hp
  rw [j] at hp ⊢
  have f1 := ctb_pts x.feature left k1 h0 h1 a
  have f2 := Ctb.entry.list x.log _ k2 a (by omega) c
  have f3 := szN_b k3.1 c (by omega) e
  have f4 := wsub_ge k4 e (by omega)
  have f5 := ctL_lv x.levels
  unfold TEvent.ct
  omega
theorem ctb_atlas (x : TAtlas) (hk : x.ok) (hp : 0 ≤ x.sz 1048576) : (x.cs : Int) ≤ 10485760 := by
  obtain ⟨k1, k2, k3, k4, _⟩ := hk
  unfold TAtlas.sz at *
  obtain ⟨a, b⟩ := thenS_ge hp
  rw [b] at hp
  obtain ⟨c, d⟩ := thenS_ge hp
  rw [d] at hp
  obtain ⟨e, g⟩ := thenS_ge hp
  have f1 := Ctb.entry.list x.log 1048576 k1 (by decide) (by decide) a
  have f2 := szN_b k2.1 a (by omega) c
  have f3 := Ctb.edition.list x.editions _ k3 c (by omega) e
  have f5 := ctL_lv x.levels
  unfold TAtlas.cs
  omega

theorem gdW_of {l : List TEvent} (h1 : ∀ e ∈ l, e.sm) (h2 : ∀ e ∈ l, e.ok) : ∀ e ∈ l, e.gd := fun e he => by
  obtain ⟨s1, ⟨s2, s3⟩, s4⟩ := h1 e he
  obtain ⟨_, k1, _, _, ⟨_, k2⟩, _, k3⟩ := h2 e he
  exact ⟨⟨s1, k1.2.2.2.1⟩, ⟨s2, fun x hx => ⟨s3 x hx, (k2 x hx).1.2.2.2.1⟩⟩, s4, k3⟩
theorem law_FnExactRunEvents (a : TAtlas) (l : List TEvent) (h0 : a.ok) (h1 : (l.length ≤ maxLen ∧ ∀ x ∈ l, x.ok)) : VCalls Tryz.prog 12 [.agg a.en, .ro 11 (l.map TEvent.en)] (fun r M => r = B true ∧ M = []) := by
  refine VB Tryz.func12 90 (fun E hE => ?_)
  have hclo_a : Clo (.agg a.en) := Clo.agg a.clo_en
  have hclo_l : Clo (.ro 11 (l.map TEvent.en)) := clo_list TEvent.clo_en
  obtain ⟨hl1, hp1⟩ := id h1
  rw [maxLen_eq] at hl1
  rcases Szs.split (TAtlas.szs) a 1048576 h0 (by decide) (by decide) with hz | ⟨hz, hsm0, hz0, hz1⟩
  case' inr => (rcases Szs.split (TEvent.szs.list) l (a.sz 1048576) h1 hz0 hz1 with hz' | ⟨hz', ⟨hl1', hp1'⟩, hz0', hz1'⟩)
  all_goals try (dsimp only at hz')
  all_goals try (have hsmO : (runR a l).sm := runTo_sm (by assumption) (show ∀ e ∈ l, e.gs from by assumption))
  all_goals try (have hcb := TAtlas.cs_le hsmO)
  all_goals try (have hclX : Clo (.agg (runR a l).en) := Clo.agg (TAtlas.clo_en _))
  all_goals try (have hca_a := TAtlas.cs_le (a := a) (by assumption))
  all_goals try (have hclA0 : Clo (.ro 8 (a.log.map TEntry.en)) := clo_list TEntry.clo_en)
  all_goals try (have hclA1 : Clo (.ro 3 (a.levels.map TLevel.en)) := clo_list TLevel.clo_en)
  all_goals try (have hclA2 : Clo (.ro 3 (a.editions.map TEdition.en)) := clo_list TEdition.clo_en)
  all_goals try (have hclX0 : Clo (.ro 8 ((runR a l).log.map TEntry.en)) := clo_list TEntry.clo_en)
  all_goals try (have hclX1 : Clo (.ro 3 ((runR a l).levels.map TLevel.en)) := clo_list TLevel.clo_en)
  all_goals try (have hclX2 : Clo (.ro 3 ((runR a l).editions.map TEdition.en)) := clo_list TEdition.clo_en)
  all_goals try (have hclM0 : Clo (.ro 8 ((TAtlas.ms 1 (runR a l)).log.map TEntry.en)) := clo_list TEntry.clo_en)
  all_goals try (have hclM1 : Clo (.ro 3 ((TAtlas.ms 1 (runR a l)).levels.map TLevel.en)) := clo_list TLevel.clo_en)
  all_goals try (have hclM2 : Clo (.ro 3 ((TAtlas.ms 1 (runR a l)).editions.map TEdition.en)) := clo_list TEdition.clo_en)
  all_goals try (have hk2 : decide (1 + (((runR a l).cs : Nat) : Int) < 0) = false := by simp; omega)
  all_goals try (have hctA := ctb_atlas a h0 hz0)
  all_goals try (have hctV := Ctb.event.list l _ h1 hz0 hz1 hz0')
  all_goals try (have hk1 : decide (1 + ((a.cs : Nat) : Int) + ((ctL TEvent.ct l : Nat) : Int) < 0) = false := by simp; omega)
  repeat' ((first
    | (refine iAL ?_; first | refine AL.at 30 (h := POp.O Tryz.func26 (hc := toAtlas_oX a (by assumption))) ?_ | refine AL.at 32 (h := POp.O Tryz.func56 (hc := toEventS_o l (by assumption) (by assumption))) ?_ | refine AL.at 35 (h := POp.O Tryz.func57 (hc := (show VCalls Tryz.prog 57 [.agg [.ro 8 (a.log.map TEntry.en), .ro 3 (a.levels.map TLevel.en), .ro 3 (a.editions.map TEdition.en), I a.cover.w, I a.cover.h, S a.cover.cells, I a.now], .ro 11 (l.map TEvent.en)] (fun r M => r = .agg [.own 0 0, .own 1 0, .own 2 0, I (runR a l).cover.w, I (runR a l).cover.h, S (runR a l).cover.cells, I (runR a l).now] ∧ M = [some ⟨121, 8, 0, false, (runR a l).log.map TEntry.ed⟩, some ⟨97, 3, 0, false, (runR a l).levels.map TLevel.en⟩, some ⟨136, 3, 0, false, (runR a l).editions.map TEdition.ed⟩]) from run_i a (gdA_of (by assumption) (by assumption)) l (by assumption) (gdW_of (by assumption) h1.2)))) ?_ | refine AL.any ?_ | refine AL.any (h := POp.D Tryz.func19 (hc := eqAtlas_self a (by assumption)) (hvw := vwlF)) ?_ | refine AL.any (h := POp.D Tryz.func19 (hc := eqAtlas_self (runR a l) (by assumption)) (hvw := vwlF)) ?_ | refine AL.any (h := POp.H [2, 3, 4] Tryz.func22 (hc := markAtlas a (1) (by omega) (by omega))) ?_ | refine AL.any (h := POp.H [7, 8, 9] Tryz.func22 (hc := markAtlas (runR a l) 1 (by omega) (by omega))) ?_ | refine AL.any (h := POp.D Tryz.func23 (hc := heldAtlas (runR a l) 1 (by omega) (by omega))) ?_ | refine AL.any (h := POp.k Tryz.func24 (hc := szAtlas a _ (by assumption))) ?_ | refine AL.any (h := POp.k Tryz.func26 (hc := toAtlas a (by assumption))) ?_ | refine AL.any (h := POp.k Tryz.func54 (hc := szEventS _ _ (by assumption) (by assumption))) ?_ | refine AL.any (h := POp.k Tryz.func55 (hc := run_s' a (gdA_of (by assumption) (by assumption)) l (by assumption) (gdW_of (by assumption) h1.2))) ?_ | refine AL.any (h := POp.k Tryz.func56 (hc := toEventS _ (by assumption) (by assumption))) ?_ | refine AL.any (h := POp.k Tryz.func57 (hc := run_i' a (gdA_of (by assumption) (by assumption)) l (by assumption) (gdW_of (by assumption) h1.2))) ?_ | refine AL.any (h := POp.D Tryz.func58 (hc := eqEventS_self l (by assumption) (by assumption))) ?_ | refine AL.any (h := POp.H [6] Tryz.func59 (hc := markEventS 81 l (1 + ((a.cs : Nat) : Int)) (by omega) (by omega))) ?_ | refine AL.U ?_ | refine AL.F ?_ | refine AL.T ?_ | refine AL.T (h := POp.D Tryz.func19 (hc := eqAtlas_self a (by assumption)) (hvw := vwlF)) ?_ | refine AL.T (h := POp.D Tryz.func19 (hc := eqAtlas_self (runR a l) (by assumption)) (hvw := vwlF)) ?_ | refine AL.W ?_ | refine AL.W (h := fun h => by (try rw [h]); exact POp.D Tryz.func19 (hc := eqAtlas_self a (by assumption)) (hvw := vwlF)) ?_ | refine AL.W (h := fun h => by (try rw [h]); exact POp.D Tryz.func19 (hc := eqAtlas_self (runR a l) (by assumption)) (hvw := vwlF)) ?_ | refine AL.nil ?_)
    | ((with_reducible show DL ..); first | refine DL.any ?_ | refine DL.any (h := POp.k Tryz.func26 (hc := toAtlas a (by assumption))) ?_ | refine DL.nil ?_)
    | (refine iAW ?_; first | (refine AW.c0 ?_; constructor) | refine AW.dr (id := 14) 3 ?_ | refine AW.cT ?_ | refine AW.cF ?_ | (refine AW.c2 ?_ ?_ <;> (intro h; try simp only [bT, bF] at h)))) <;> (try dsimp only))
  all_goals exact Fin.one rfl (RV.tmp (by rfl)) (clo_c _) ⟨by first | rfl | (simp_all; done), rfl⟩

end Go.Proofs.YtacbpfbelcdeiaaGreat.Abs
